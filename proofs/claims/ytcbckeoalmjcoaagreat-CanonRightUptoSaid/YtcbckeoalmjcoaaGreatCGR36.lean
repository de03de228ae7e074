/- Joined texts: RegCut. -/
import Derived.Deep.RegionHeld3
import Derived.Test.YtcbckeoalmjcoaaGreatCGR1
/- A region that draws its order, cut in two: what holds behind some of its operations is enough. -/
namespace Go.Cw
/-- The rest of a region is shown once, for all that I lets in. -/
theorem region_cut {P : Program} {md : Region.Mode} {ops : Array Oper} {Q : Exit → Act → World → Prop} {S : World → Prop} {fuel : Nat} {listed : Array Bool} {a : Act} {w : World} (I : Nat → Array Bool → Act → World → Prop)
    (h1 : (∀ f l a w, I f l a w → wpAnyH P md ops Q S f l a w) → wpAnyH P md ops Q S fuel listed a w) (h2 : ∀ f l a w, I f l a w → wpAnyH P md ops Q S f l a w) : wpAnyH P md ops Q S fuel listed a w := h1 h2
end Go.Cw
