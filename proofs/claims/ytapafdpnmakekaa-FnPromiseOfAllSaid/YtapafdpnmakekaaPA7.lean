/- Texts of one claim, put together by merge.py: XCode. -/
import Derived.Test.YtapafdpnmakekaaPA4
import Derived.Test.YtapafdpnmakekaaPA5
import Derived.Test.YtapafdpnmakekaaPA6
set_option linter.unusedVariables false
set_option maxRecDepth 4000
namespace Go.Proofs.Ytapafdpnmakekaa.X
open Go Go.RowKit
def T (g:FuncId):Option XFn:=bif Nat.blt g 182 then tab1.lookup g else bif Nat.blt g 311 then tab2.lookup g else tab3.lookup g
theorem orders:Try.prog.follows .mixedOrders=true:=by kernel_rfl
theorem tsound:TSound Try.prog T:=by
 intro g fn h
 unfold T at h
 cases hb0:Nat.blt g 182 with
 | true=>
  rw[hb0] at h
  exact ts1 g fn h
 | false=>
 rw[hb0] at h
 simp only[cond_false] at h
 cases hb1:Nat.blt g 311 with
 | true=>
  rw[hb1] at h
  exact ts2 g fn h
 | false=>
 rw[hb1] at h
 simp only[cond_false] at h
 exact ts3 g fn h
end Go.Proofs.Ytapafdpnmakekaa.X
