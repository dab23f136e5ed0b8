/- Texts of one claim, put together by merge.py: XCode. -/
import Derived.Test.YtapafdpnmakekaaFL4
import Derived.Test.YtapafdpnmakekaaFL5
set_option linter.unusedVariables false
set_option maxRecDepth 4000
namespace Go.Proofs.Ytapafdpnmakekaa.X
open Go Go.RowKit
def T (g:FuncId):Option XFn:=bif Nat.blt g 201 then tab1.lookup g else tab2.lookup g
theorem orders:Try.prog.follows .mixedOrders=true:=by kernel_rfl
theorem tsound:TSound Try.prog T:=by
 intro g fn h
 unfold T at h
 cases hb0:Nat.blt g 201 with
 | true=>
  rw[hb0] at h
  exact ts1 g fn h
 | false=>
 rw[hb0] at h
 simp only[cond_false] at h
 exact ts2 g fn h
end Go.Proofs.Ytapafdpnmakekaa.X
