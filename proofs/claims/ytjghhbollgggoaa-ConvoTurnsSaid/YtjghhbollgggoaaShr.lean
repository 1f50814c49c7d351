/- A part of a walk that several ways come to, walked once, with what holds of the values that the ways made. -/
import Derived.Test.YtjghhbollgggoaaMix
namespace Go.Proofs.Ytjghhbollgggoaa
open Go.RowKit
theorem share0 {F : Prop} {A M : World → Prop} (main : (∀ w, A w → M w) → F) (tail : ∀ w, A w → M w) : F := main tail
theorem share1 {F : Prop} {A M : Value → World → Prop} (main : (∀ v w, A v w → M v w) → F) (tail : ∀ v w, A v w → M v w) : F := main tail
theorem share2 {F : Prop} {A M : Value → Value → World → Prop} (main : (∀ v u w, A v u w → M v u w) → F) (tail : ∀ v u w, A v u w → M v u w) : F := main tail
theorem share3 {F : Prop} {A M : Value → Value → Value → World → Prop} (main : (∀ v u t w, A v u t w → M v u t w) → F) (tail : ∀ v u t w, A v u t w → M v u t w) : F := main tail
theorem share4 {F : Prop} {A M : Value → Value → Value → Value → World → Prop} (main : (∀ v u t s w, A v u t s w → M v u t s w) → F) (tail : ∀ v u t s w, A v u t s w → M v u t s w) : F := main tail
theorem share5 {F : Prop} {A M : Value → Value → Value → Value → Value → World → Prop} (main : (∀ v u t s r w, A v u t s r w → M v u t s r w) → F) (tail : ∀ v u t s r w, A v u t s r w → M v u t s r w) : F := main tail
theorem share6 {F : Prop} {A M : Value → Value → Value → Value → Value → Value → World → Prop} (main : (∀ v u t s r q w, A v u t s r q w → M v u t s r q w) → F) (tail : ∀ v u t s r q w, A v u t s r q w → M v u t s r q w) : F := main tail
end Go.Proofs.Ytjghhbollgggoaa
