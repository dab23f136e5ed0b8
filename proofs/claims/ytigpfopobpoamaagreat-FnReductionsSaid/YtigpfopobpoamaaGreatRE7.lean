/- Texts of one claim, put together by merge.py: XCode. -/
import Derived.Test.YtigpfopobpoamaaGreatRE4
import Derived.Test.YtigpfopobpoamaaGreatRE5
import Derived.Test.YtigpfopobpoamaaGreatRE6
set_option linter.unusedVariables false
set_option maxRecDepth 4000
namespace Go.Proofs.YtigpfopobpoamaaGreat.X
open Go Go.RowKit
def T (g:FuncId):Option XFn:=bif Nat.blt g 38 then tab1.lookup g else bif Nat.blt g 78 then tab2.lookup g else tab3.lookup g
theorem orders:Tryz.prog.follows .mixedOrders=true:=by kernel_rfl
theorem tsound:TSound Tryz.prog T:=by
 intro g fn h
 unfold T at h
 cases hb0:Nat.blt g 38 with
 | true=>
  rw[hb0] at h
  exact ts1 g fn h
 | false=>
 rw[hb0] at h
 simp only[cond_false] at h
 cases hb1:Nat.blt g 78 with
 | true=>
  rw[hb1] at h
  exact ts2 g fn h
 | false=>
 rw[hb1] at h
 simp only[cond_false] at h
 exact ts3 g fn h
end Go.Proofs.YtigpfopobpoamaaGreat.X
