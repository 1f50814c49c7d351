/- The walk of FrameSizes lies in Wakes. -/
import Derived.Test.YtjnbgoiaocpcjaaWakes
