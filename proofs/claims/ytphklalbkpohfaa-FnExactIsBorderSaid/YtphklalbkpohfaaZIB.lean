/- Texts of one claim, put together by merge.py: XLIB, XHIB. -/
import Derived.Test.YtphklalbkpohfaaM3
import Derived.Test.YtphklalbkpohfaaME
import Derived.Test.YtphklalbkpohfaaM2
import Derived.Test.YtphklalbkpohfaaRows
import Derived.Test.YtphklalbkpohfaaM4
import Derived.ProofKit
import Derived.OpenShut
import Derived.ShutString
import Derived.ChangeOld
import Derived.Below
import Derived.SizedLaws
/- The law on IsBorder, on the abstract machine (printed by lawg.py). -/
set_option linter.unusedVariables false
set_option linter.unusedSimpArgs false
set_option maxRecDepth 20000
set_option maxHeartbeats 4000000
namespace Go.Proofs.Ytphklalbkpohfaa.X
open Go Go.RowKit

theorem law_IsBorder {v0 : Value} {x0 : Sch} {h : AH} (hv0 : Twgs h v0 x0.ps) (hl0 : ((x0.ps).length : Int) ≤ 9223372036854775807) :
    WF S 4 [schV x0 v0] h (fun v _ => v = .bool true) := by
  refine WF_fn (fn := c4) rfl rfl ?_
  unfold c4
  have ph : h <+: h := List.prefix_refl h
  have bself : ∀ b : Bool, ((b == b) != true) = false := by decide
  try simp (maxSteps := 3000000) (disch := first | omega | (simp only [len_new, len_put, len_kill]; omega)) only [↓xpre, xpost, ↓reduceIte, Nat.reduceEqDiff, Nat.reduceAdd, Nat.reduceSub, Nat.reduceLeDiff, Nat.zero_add, Nat.sub_zero, schV, hv0.one]
  generalize hH1 : AH.new h _ = H1
  obtain ⟨ba0, p1, e1⟩ := new_facts hH1
  have l1 := pre_len p1
  have ph := ph.trans p1
  try simp (maxSteps := 3000000) (disch := first | omega | (simp only [len_new, len_put, len_kill]; omega)) only [↓xpre, xpost, ↓reduceIte, Nat.reduceEqDiff, Nat.reduceAdd, Nat.reduceSub, Nat.reduceLeDiff, Nat.zero_add, Nat.sub_zero, rdn_of ba0]
  refine gsz_B (hv0.pre ph) (by omega) hl0 fun m0 H2 p2 hm0' hs0 => ?_
  have l2 := pre_len p2
  have ph := ph.trans p2
  have ba0 := pre_get p2 ba0
  try simp (maxSteps := 3000000) (disch := first | omega | (simp only [len_new, len_put, len_kill]; omega)) only [↓xpre, xpost, ↓reduceIte, Nat.reduceEqDiff, Nat.reduceAdd, Nat.reduceSub, Nat.reduceLeDiff, Nat.zero_add, Nat.sub_zero, IfW_dec]
  refine ⟨fun _ => trivial, fun hz0 => ?_⟩
  have hs0 := hs0 (by omega)
  have hc0 := cntX_le hs0
  try simp (maxSteps := 3000000) (disch := first | omega | (simp only [len_new, len_put, len_kill]; omega)) only [↓xpre, xpost, ↓reduceIte, Nat.reduceEqDiff, Nat.reduceAdd, Nat.reduceSub, Nat.reduceLeDiff, Nat.zero_add, Nat.sub_zero, rdn_of ba0]
  try refine ⟨p2, ?_⟩
  refine gto_B (hv0.pre ph) hs0 fun vc0 H3 p3 oc0 => ?_
  have l3 := pre_len p3
  have ph := ph.trans p3
  have ba0 := pre_get p3 ba0
  try simp (maxSteps := 3000000) (disch := first | omega | (simp only [len_new, len_put, len_kill]; omega)) only [↓xpre, xpost, ↓reduceIte, Nat.reduceEqDiff, Nat.reduceAdd, Nat.reduceSub, Nat.reduceLeDiff, Nat.zero_add, Nat.sub_zero, rdn_of ba0]
  try refine ⟨p3, ?_⟩
  refine s_IsBorder oc0.rd hs0 fun  H4 p4 => ?_
  have l4 := pre_len p4
  have ph := ph.trans p4
  have ba0 := pre_get p4 ba0
  have oc0 := oc0.pre p4
  try simp (maxSteps := 3000000) (disch := first | omega | (simp only [len_new, len_put, len_kill]; omega)) only [↓xpre, xpost, ↓reduceIte, Nat.reduceEqDiff, Nat.reduceAdd, Nat.reduceSub, Nat.reduceLeDiff, Nat.zero_add, Nat.sub_zero, rdn_of ba0]
  try refine ⟨p4, ?_⟩
  refine gto_B (hv0.pre ph) hs0 fun vx0 H5 p5 ox0 => ?_
  have l5 := pre_len p5
  have ph := ph.trans p5
  have ba0 := pre_get p5 ba0
  try simp (maxSteps := 3000000) (disch := first | omega | (simp only [len_new, len_put, len_kill]; omega)) only [↓xpre, xpost, ↓reduceIte, Nat.reduceEqDiff, Nat.reduceAdd, Nat.reduceSub, Nat.reduceLeDiff, Nat.zero_add, Nat.sub_zero, schV, ox0.rd.one, rdn_of ba0]
  generalize hH6 : AH.new H5 _ = H6
  obtain ⟨bx0, p6, e6⟩ := new_facts hH6
  have l6 := pre_len p6
  have ph := ph.trans p6
  have ba0 := pre_get p6 ba0
  have ox0 := ox0.pre p6
  try simp (maxSteps := 3000000) (disch := first | omega | (simp only [len_new, len_put, len_kill]; omega)) only [↓xpre, xpost, ↓reduceIte, Nat.reduceEqDiff, Nat.reduceAdd, Nat.reduceSub, Nat.reduceLeDiff, Nat.zero_add, Nat.sub_zero, rdn_of ba0, rdn_of bx0]
  try refine ⟨p6, ?_⟩
  refine i_IsBorder ox0.rd hs0 fun  H7 p7 => ?_
  have l7 := pre_len p7
  have ph := ph.trans p7
  have ba0 := pre_get p7 ba0
  have bx0 := pre_get p7 bx0
  have ox0 := ox0.pre p7
  try simp (maxSteps := 3000000) (disch := first | omega | (simp only [len_new, len_put, len_kill]; omega)) only [↓xpre, xpost, ↓reduceIte, Nat.reduceEqDiff, Nat.reduceAdd, Nat.reduceSub, Nat.reduceLeDiff, Nat.zero_add, Nat.sub_zero, ne_eq, not_true_eq_false, bself, rdn_of ba0, rdn_of bx0]
  try refine ⟨p7, ?_⟩
  try simp (maxSteps := 3000000) (disch := first | omega | (simp only [len_new, len_put, len_kill]; omega)) only [↓xpre, xpost, ↓reduceIte, Nat.reduceEqDiff, Nat.reduceAdd, Nat.reduceSub, Nat.reduceLeDiff, Nat.zero_add, Nat.sub_zero, ne_eq, not_true_eq_false, rdn_of ba0, rdn_of bx0]
  try refine ⟨p7, ?_⟩
  refine gto_B (hv0.pre ph) hs0 fun ve0 H8 p8 oe0 => ?_
  have l8 := pre_len p8
  have ph := ph.trans p8
  have ba0 := pre_get p8 ba0
  have bx0 := pre_get p8 bx0
  have ox0 := ox0.pre p8
  try simp (maxSteps := 3000000) (disch := first | omega | (simp only [len_new, len_put, len_kill]; omega)) only [↓xpre, xpost, ↓reduceIte, Nat.reduceEqDiff, Nat.reduceAdd, Nat.reduceSub, Nat.reduceLeDiff, Nat.zero_add, Nat.sub_zero, rdn_of ba0, rdn_of bx0]
  try refine ⟨p8, ?_⟩
  refine geq_B ox0.rd oe0.rd hs0 fun  H9 p9 => ?_
  have l9 := pre_len p9
  have ph := ph.trans p9
  have ba0 := pre_get p9 ba0
  have bx0 := pre_get p9 bx0
  have ox0 := ox0.pre p9
  have oe0 := oe0.pre p9
  try simp (maxSteps := 3000000) (disch := first | omega | (simp only [len_new, len_put, len_kill]; omega)) only [↓xpre, xpost, ↓reduceIte, Nat.reduceEqDiff, Nat.reduceAdd, Nat.reduceSub, Nat.reduceLeDiff, Nat.zero_add, Nat.sub_zero, rdn_of ba0, rdn_of bx0]
  try trivial

end Go.Proofs.Ytphklalbkpohfaa.X

/- The row of IsBorder (printed by row.py). -/
namespace Go.Proofs.Ytphklalbkpohfaa.fnExactIsBorder
open Go Go.ChangeShapes Go.WideShapes Go.ChangeAt Go.RowKit Go.Proofs.Ytphklalbkpohfaa.X
set_option linter.unusedVariables false
theorem own : ownKnob Try.prog.godebug = none := by kernel_rfl
theorem laid : laidOutB Try.prog = true := by kernel_rfl
theorem shapeB : isSch Try.prog 32 121 .u8 6 108 = true := by kernel_rfl
theorem readable0 : Try.prog.readableRec 32 = true := by kernel_rfl
theorem intable0 : 32 < Try.prog.types.size := of_decide_eq_true (by kernel_rfl)
theorem isbool : Try.prog.underlying 4 = some .bool := by kernel_rfl
theorem isint : Try.prog.underlying 2 = some (.int .i64) := by kernel_rfl
set_option maxRecDepth 100000 in
theorem lifted (os : Os) (started : os.Started) (H : Type) (enc : TypeId × Value → H) :
    ReturnsInHanded {} Try.checked os 4 .any (Rows.fnExactIsBorderSpec.pre6 enc Try.prog Try.f4 Rows.fnExactIsBorderRow.domain false) (Rows.fnExactIsBorderSpec.post enc Try.prog Try.f4 false true false false) := by
  refine returnsInHanded_of_change_sized (C := Try.checked) own started (by kernel_rfl) Try.func4
    (ChangeSpec.witness6 (enc := enc) (C := Try.checked) false ⟨#[], #[.agg #[.int .i64 0, .int .i64 0, .int .i64 0, .int .i64 0, .slice none 0 0]], []⟩ 8 (by kernel_rfl) (by kernel_rfl) (by kernel_rfl) (by kernel_rfl)) ?_
  intro W base args ds gs before hval0 hW hcnd hsz0 _
  have hval : ∀ (j : Nat) t v, Try.f4.params[j]? = some t → args[j]? = some v → Value.okWide Try.prog W .any base t v := hval0
  have hW' := hW
  obtain ⟨p, q, hA0, hV, rfl, hfz, hnd⟩ := hW
  have hA : DataW.TrodAll enc Try.prog W 0 (fun _ => true) true Try.f4.params.toList args.toList ds p := hA0
  rw [Try.params4] at hA hval
  obtain ⟨v0, vs0, d0, ds0, p0, q0, hargs0, rfl, rfl, h0, r0⟩ := trodAll_cons hA
  obtain ⟨rfl, rfl, rfl⟩ := trodAll_nil r0
  obtain rfl : args = #[v0] := by cases args; simp_all
  obtain ⟨rfl, rfl⟩ := trodVars_none hV
  obtain ⟨a0, b0, c0, e0, ns0, u0, γ0, g0, pg0, ph0, A0, hv0, hy0, hl0, hw0⟩ := adm_sch (Adm.nil Try.prog W) 121 6 108 shapeB h0
  have hi0 : Twgs g0 u0 ns0 := ⟨hy0, fun i hi j hj => u8_in (hw0 i hi j hj)⟩
  have hl0' : (ns0.length : Int) ≤ 9223372036854775807 := by
    have : ns0.length ≤ 2 ^ 63 - 1 := hl0
    omega
  have hi0' := hi0
  have key := law_IsBorder (x0 := ⟨a0, b0, c0, e0, ns0⟩) hi0' hl0'
  refine (calls_of_WF (S := S) orders esound tsound A0 (VRL.cons hv0 (VRL.nil _)) key).mono fun e W' ⟨v, u, γ1, h1, he, hvr, hb, bel⟩ => ?_
  subst hb
  obtain rfl := hvr.bool_inv
  subst he
  have st := stays_all laid bel (ts := [32]) (fun t ht => by
    simp only [List.mem_cons, List.not_mem_nil, or_false] at ht
    rw [ht]
    exact ⟨readable0, intable0⟩) hA
  exact ⟨_, rfl, _, _, _, [], _, [], hW', trodAll_mk1 (shut_bool isbool _), st, rfl, bel.frame _, fun h => by cases h⟩
theorem over : Rows.fnExactIsBorderRow.holds Try.pinned (OpenSpec.ofChange Rows.fnExactIsBorderSpec) :=
  OpenClaim.holds_of_wide 4 Try.f4 rfl rfl rfl rfl rfl rfl rfl ⟨rfl, rfl, rfl, rfl, rfl⟩ rfl rfl rfl rfl rfl (by kernel_rfl) Try.func4 (by kernel_rfl)
    (of_decide_eq_true (by kernel_rfl)) (by unfold Func.isWrapper; first | (rw [if_pos (by decide +kernel)]; kernel_rfl) | (rw [if_neg (by decide +kernel)]; exact ⟨rfl, rfl⟩))
    (fun os started H enc _ => lifted os started H enc)
end Go.Proofs.Ytphklalbkpohfaa.fnExactIsBorder
namespace Go.Proofs.Ytphklalbkpohfaa
theorem fnExactIsBorder_holds : Rows.FnExactIsBorderSaid := fnExactIsBorder.over
end Go.Proofs.Ytphklalbkpohfaa
