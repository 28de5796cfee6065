import Derived.Test.YtjnedgkpakoceaaFogx0
import Derived.Test.YtjnedgkpakoceaaFogx3
import Derived.Test.YtjnedgkpakoceaaKit
namespace Go.Proofs.Ytjnedgkpakoceaa.Pure
open Go.RowKit Go.Proofs.Ytjnedgkpakoceaa.Fog Go.Proofs.YtjnedgkpakoceaaW.PrintWords Go.Proofs.YtjnedgkpakoceaaW.PrintLast Go.Proofs.Ytjnedgkpakoceaa.Kit
theorem awake_ev : Ev (fun k => foghornlaw24_awake.f k) true := Ev.of (fun k => foghornlaw24_awake.mono k) (k := 50) (by decide +kernel)
end Go.Proofs.Ytjnedgkpakoceaa.Pure
