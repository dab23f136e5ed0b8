/- Texts of one claim, put together by merge.py: XLHE, XHHE. -/
import Derived.Test.YtphklalbkpohfaaMB
import Derived.Test.YtphklalbkpohfaaM2
import Derived.Test.YtphklalbkpohfaaRows
import Derived.Test.YtphklalbkpohfaaM4
import Derived.ProofKit
import Derived.OpenShut
import Derived.ShutString
import Derived.ChangeOld
import Derived.Below
import Derived.SizedLaws
/- The law on HaveEqualSums, on the abstract machine (printed by lawg.py). -/
set_option linter.unusedVariables false
set_option linter.unusedSimpArgs false
set_option maxRecDepth 20000
set_option maxHeartbeats 4000000
namespace Go.Proofs.Ytphklalbkpohfaa.X
open Go Go.RowKit

theorem law_HaveEqualSums {v0 : Value} {x0 : Sch} {v1 : Value} {x1 : Sch} {h : AH} (hv0 : Prods h v0 x0.ps) (hl0 : ((x0.ps).length : Int) ≤ 9223372036854775807) (hv1 : Prods h v1 x1.ps) (hl1 : ((x1.ps).length : Int) ≤ 9223372036854775807) :
    WF S 8 [schV x0 v0, schV x1 v1] h (fun v _ => v = .bool true) := by
  refine WF_fn (fn := c8) rfl rfl ?_
  unfold c8
  have ph : h <+: h := List.prefix_refl h
  have bself : ∀ b : Bool, ((b == b) != true) = false := by decide
  try simp (maxSteps := 3000000) (disch := first | omega | (simp only [len_new, len_put, len_kill]; omega)) only [↓xpre, xpost, ↓reduceIte, Nat.reduceEqDiff, Nat.reduceAdd, Nat.reduceSub, Nat.reduceLeDiff, Nat.zero_add, Nat.sub_zero, schV, hv0.one, hv1.one]
  generalize hH1 : AH.new h _ = H1
  obtain ⟨ba0, p1, e1⟩ := new_facts hH1
  have l1 := pre_len p1
  have ph := ph.trans p1
  generalize hH2 : AH.new H1 _ = H2
  obtain ⟨ba1, p2, e2⟩ := new_facts hH2
  have l2 := pre_len p2
  have ph := ph.trans p2
  have ba0 := pre_get p2 ba0
  try simp (maxSteps := 3000000) (disch := first | omega | (simp only [len_new, len_put, len_kill]; omega)) only [↓xpre, xpost, ↓reduceIte, Nat.reduceEqDiff, Nat.reduceAdd, Nat.reduceSub, Nat.reduceLeDiff, Nat.zero_add, Nat.sub_zero, rdn_of ba0, rdn_of ba1]
  refine gsz_X (hv0.pre ph) (by omega) hl0 fun m0 H3 p3 hm0' hs0 => ?_
  have l3 := pre_len p3
  have ph := ph.trans p3
  have ba0 := pre_get p3 ba0
  have ba1 := pre_get p3 ba1
  try simp (maxSteps := 3000000) (disch := first | omega | (simp only [len_new, len_put, len_kill]; omega)) only [↓xpre, xpost, ↓reduceIte, Nat.reduceEqDiff, Nat.reduceAdd, Nat.reduceSub, Nat.reduceLeDiff, Nat.zero_add, Nat.sub_zero, IfW_dec]
  refine ⟨fun _ => trivial, fun hz0 => ?_⟩
  have hs0 := hs0 (by omega)
  have hc0 := cntX_le hs0
  try simp (maxSteps := 3000000) (disch := first | omega | (simp only [len_new, len_put, len_kill]; omega)) only [↓xpre, xpost, ↓reduceIte, Nat.reduceEqDiff, Nat.reduceAdd, Nat.reduceSub, Nat.reduceLeDiff, Nat.zero_add, Nat.sub_zero, rdn_of ba0, rdn_of ba1]
  refine gsz_X (hv1.pre ph) (by omega) hl1 fun m1 H4 p4 hm1' hs1 => ?_
  have l4 := pre_len p4
  have ph := ph.trans p4
  have ba0 := pre_get p4 ba0
  have ba1 := pre_get p4 ba1
  try simp (maxSteps := 3000000) (disch := first | omega | (simp only [len_new, len_put, len_kill]; omega)) only [↓xpre, xpost, ↓reduceIte, Nat.reduceEqDiff, Nat.reduceAdd, Nat.reduceSub, Nat.reduceLeDiff, Nat.zero_add, Nat.sub_zero, IfW_dec]
  refine ⟨fun _ => trivial, fun hz1 => ?_⟩
  have hs1 := hs1 (by omega)
  have hc1 := cntX_le hs1
  try simp (maxSteps := 3000000) (disch := first | omega | (simp only [len_new, len_put, len_kill]; omega)) only [↓xpre, xpost, ↓reduceIte, Nat.reduceEqDiff, Nat.reduceAdd, Nat.reduceSub, Nat.reduceLeDiff, Nat.zero_add, Nat.sub_zero, rdn_of ba0, rdn_of ba1]
  try refine ⟨p4, ?_⟩
  refine gto_X (hv0.pre ph) hs0 fun vc0 H5 p5 oc0 => ?_
  have l5 := pre_len p5
  have ph := ph.trans p5
  have ba0 := pre_get p5 ba0
  have ba1 := pre_get p5 ba1
  try simp (maxSteps := 3000000) (disch := first | omega | (simp only [len_new, len_put, len_kill]; omega)) only [↓xpre, xpost, ↓reduceIte, Nat.reduceEqDiff, Nat.reduceAdd, Nat.reduceSub, Nat.reduceLeDiff, Nat.zero_add, Nat.sub_zero, rdn_of ba0, rdn_of ba1]
  try refine ⟨p5, ?_⟩
  refine gto_X (hv1.pre ph) hs1 fun vc1 H6 p6 oc1 => ?_
  have l6 := pre_len p6
  have ph := ph.trans p6
  have ba0 := pre_get p6 ba0
  have ba1 := pre_get p6 ba1
  have oc0 := oc0.pre p6
  try simp (maxSteps := 3000000) (disch := first | omega | (simp only [len_new, len_put, len_kill]; omega)) only [↓xpre, xpost, ↓reduceIte, Nat.reduceEqDiff, Nat.reduceAdd, Nat.reduceSub, Nat.reduceLeDiff, Nat.zero_add, Nat.sub_zero, rdn_of ba0, rdn_of ba1]
  try refine ⟨p6, ?_⟩
  refine s_HaveEqualSums oc0.rd hs0 oc1.rd hs1 fun  H7 p7 => ?_
  have l7 := pre_len p7
  have ph := ph.trans p7
  have ba0 := pre_get p7 ba0
  have ba1 := pre_get p7 ba1
  have oc0 := oc0.pre p7
  have oc1 := oc1.pre p7
  try simp (maxSteps := 3000000) (disch := first | omega | (simp only [len_new, len_put, len_kill]; omega)) only [↓xpre, xpost, ↓reduceIte, Nat.reduceEqDiff, Nat.reduceAdd, Nat.reduceSub, Nat.reduceLeDiff, Nat.zero_add, Nat.sub_zero, rdn_of ba0, rdn_of ba1]
  try refine ⟨p7, ?_⟩
  refine gto_X (hv0.pre ph) hs0 fun vx0 H8 p8 ox0 => ?_
  have l8 := pre_len p8
  have ph := ph.trans p8
  have ba0 := pre_get p8 ba0
  have ba1 := pre_get p8 ba1
  try simp (maxSteps := 3000000) (disch := first | omega | (simp only [len_new, len_put, len_kill]; omega)) only [↓xpre, xpost, ↓reduceIte, Nat.reduceEqDiff, Nat.reduceAdd, Nat.reduceSub, Nat.reduceLeDiff, Nat.zero_add, Nat.sub_zero, schV, ox0.rd.one, rdn_of ba0, rdn_of ba1]
  generalize hH9 : AH.new H8 _ = H9
  obtain ⟨bx0, p9, e9⟩ := new_facts hH9
  have l9 := pre_len p9
  have ph := ph.trans p9
  have ba0 := pre_get p9 ba0
  have ba1 := pre_get p9 ba1
  have ox0 := ox0.pre p9
  try simp (maxSteps := 3000000) (disch := first | omega | (simp only [len_new, len_put, len_kill]; omega)) only [↓xpre, xpost, ↓reduceIte, Nat.reduceEqDiff, Nat.reduceAdd, Nat.reduceSub, Nat.reduceLeDiff, Nat.zero_add, Nat.sub_zero, rdn_of ba0, rdn_of ba1, rdn_of bx0]
  try refine ⟨p9, ?_⟩
  refine gto_X (hv1.pre ph) hs1 fun vx1 H10 p10 ox1 => ?_
  have l10 := pre_len p10
  have ph := ph.trans p10
  have ba0 := pre_get p10 ba0
  have ba1 := pre_get p10 ba1
  have bx0 := pre_get p10 bx0
  have ox0 := ox0.pre p10
  try simp (maxSteps := 3000000) (disch := first | omega | (simp only [len_new, len_put, len_kill]; omega)) only [↓xpre, xpost, ↓reduceIte, Nat.reduceEqDiff, Nat.reduceAdd, Nat.reduceSub, Nat.reduceLeDiff, Nat.zero_add, Nat.sub_zero, schV, ox1.rd.one, rdn_of ba0, rdn_of ba1, rdn_of bx0]
  generalize hH11 : AH.new H10 _ = H11
  obtain ⟨bx1, p11, e11⟩ := new_facts hH11
  have l11 := pre_len p11
  have ph := ph.trans p11
  have ba0 := pre_get p11 ba0
  have ba1 := pre_get p11 ba1
  have bx0 := pre_get p11 bx0
  have ox0 := ox0.pre p11
  have ox1 := ox1.pre p11
  try simp (maxSteps := 3000000) (disch := first | omega | (simp only [len_new, len_put, len_kill]; omega)) only [↓xpre, xpost, ↓reduceIte, Nat.reduceEqDiff, Nat.reduceAdd, Nat.reduceSub, Nat.reduceLeDiff, Nat.zero_add, Nat.sub_zero, rdn_of ba0, rdn_of ba1, rdn_of bx0, rdn_of bx1]
  try refine ⟨p11, ?_⟩
  refine i_HaveEqualSums ox0.rd hs0 ox1.rd hs1 fun  H12 p12 => ?_
  have l12 := pre_len p12
  have ph := ph.trans p12
  have ba0 := pre_get p12 ba0
  have ba1 := pre_get p12 ba1
  have bx0 := pre_get p12 bx0
  have bx1 := pre_get p12 bx1
  have ox0 := ox0.pre p12
  have ox1 := ox1.pre p12
  try simp (maxSteps := 3000000) (disch := first | omega | (simp only [len_new, len_put, len_kill]; omega)) only [↓xpre, xpost, ↓reduceIte, Nat.reduceEqDiff, Nat.reduceAdd, Nat.reduceSub, Nat.reduceLeDiff, Nat.zero_add, Nat.sub_zero, ne_eq, not_true_eq_false, bself, rdn_of ba0, rdn_of ba1, rdn_of bx0, rdn_of bx1]
  try refine ⟨p12, ?_⟩
  try simp (maxSteps := 3000000) (disch := first | omega | (simp only [len_new, len_put, len_kill]; omega)) only [↓xpre, xpost, ↓reduceIte, Nat.reduceEqDiff, Nat.reduceAdd, Nat.reduceSub, Nat.reduceLeDiff, Nat.zero_add, Nat.sub_zero, ne_eq, not_true_eq_false, rdn_of ba0, rdn_of ba1, rdn_of bx0, rdn_of bx1]
  try refine ⟨p12, ?_⟩
  refine gto_X (hv0.pre ph) hs0 fun ve0 H13 p13 oe0 => ?_
  have l13 := pre_len p13
  have ph := ph.trans p13
  have ba0 := pre_get p13 ba0
  have ba1 := pre_get p13 ba1
  have bx0 := pre_get p13 bx0
  have bx1 := pre_get p13 bx1
  have ox0 := ox0.pre p13
  have ox1 := ox1.pre p13
  try simp (maxSteps := 3000000) (disch := first | omega | (simp only [len_new, len_put, len_kill]; omega)) only [↓xpre, xpost, ↓reduceIte, Nat.reduceEqDiff, Nat.reduceAdd, Nat.reduceSub, Nat.reduceLeDiff, Nat.zero_add, Nat.sub_zero, rdn_of ba0, rdn_of ba1, rdn_of bx0, rdn_of bx1]
  try refine ⟨p13, ?_⟩
  refine geq_X ox0.rd oe0.rd hs0 fun  H14 p14 => ?_
  have l14 := pre_len p14
  have ph := ph.trans p14
  have ba0 := pre_get p14 ba0
  have ba1 := pre_get p14 ba1
  have bx0 := pre_get p14 bx0
  have bx1 := pre_get p14 bx1
  have ox0 := ox0.pre p14
  have ox1 := ox1.pre p14
  have oe0 := oe0.pre p14
  try simp (maxSteps := 3000000) (disch := first | omega | (simp only [len_new, len_put, len_kill]; omega)) only [↓xpre, xpost, ↓reduceIte, Nat.reduceEqDiff, Nat.reduceAdd, Nat.reduceSub, Nat.reduceLeDiff, Nat.zero_add, Nat.sub_zero, rdn_of ba0, rdn_of ba1, rdn_of bx0, rdn_of bx1]
  try simp (maxSteps := 3000000) (disch := first | omega | (simp only [len_new, len_put, len_kill]; omega)) only [↓xpre, xpost, ↓reduceIte, Nat.reduceEqDiff, Nat.reduceAdd, Nat.reduceSub, Nat.reduceLeDiff, Nat.zero_add, Nat.sub_zero, ne_eq, not_true_eq_false, rdn_of ba0, rdn_of ba1, rdn_of bx0, rdn_of bx1]
  try refine ⟨p14, ?_⟩
  refine gto_X (hv1.pre ph) hs1 fun ve1 H15 p15 oe1 => ?_
  have l15 := pre_len p15
  have ph := ph.trans p15
  have ba0 := pre_get p15 ba0
  have ba1 := pre_get p15 ba1
  have bx0 := pre_get p15 bx0
  have bx1 := pre_get p15 bx1
  have ox0 := ox0.pre p15
  have ox1 := ox1.pre p15
  try simp (maxSteps := 3000000) (disch := first | omega | (simp only [len_new, len_put, len_kill]; omega)) only [↓xpre, xpost, ↓reduceIte, Nat.reduceEqDiff, Nat.reduceAdd, Nat.reduceSub, Nat.reduceLeDiff, Nat.zero_add, Nat.sub_zero, rdn_of ba0, rdn_of ba1, rdn_of bx0, rdn_of bx1]
  try refine ⟨p15, ?_⟩
  refine geq_X ox1.rd oe1.rd hs1 fun  H16 p16 => ?_
  have l16 := pre_len p16
  have ph := ph.trans p16
  have ba0 := pre_get p16 ba0
  have ba1 := pre_get p16 ba1
  have bx0 := pre_get p16 bx0
  have bx1 := pre_get p16 bx1
  have ox0 := ox0.pre p16
  have ox1 := ox1.pre p16
  have oe1 := oe1.pre p16
  try simp (maxSteps := 3000000) (disch := first | omega | (simp only [len_new, len_put, len_kill]; omega)) only [↓xpre, xpost, ↓reduceIte, Nat.reduceEqDiff, Nat.reduceAdd, Nat.reduceSub, Nat.reduceLeDiff, Nat.zero_add, Nat.sub_zero, rdn_of ba0, rdn_of ba1, rdn_of bx0, rdn_of bx1]
  try trivial

end Go.Proofs.Ytphklalbkpohfaa.X

/- The row of HaveEqualSums (printed by row.py). -/
namespace Go.Proofs.Ytphklalbkpohfaa.fnExactHaveEqualSums
open Go Go.ChangeShapes Go.WideShapes Go.ChangeAt Go.RowKit Go.Proofs.Ytphklalbkpohfaa.X
set_option linter.unusedVariables false
theorem own : ownKnob Try.prog.godebug = none := by kernel_rfl
theorem laid : laidOutB Try.prog = true := by kernel_rfl
theorem shapeX : isSch Try.prog 43 126 .u8 4 27 = true := by kernel_rfl
theorem readable0 : Try.prog.readableRec 43 = true := by kernel_rfl
theorem intable0 : 43 < Try.prog.types.size := of_decide_eq_true (by kernel_rfl)
theorem isbool : Try.prog.underlying 4 = some .bool := by kernel_rfl
theorem isint : Try.prog.underlying 2 = some (.int .i64) := by kernel_rfl
set_option maxRecDepth 100000 in
theorem lifted (os : Os) (started : os.Started) (H : Type) (enc : TypeId × Value → H) :
    ReturnsInHanded {} Try.checked os 8 .any (Rows.fnExactHaveEqualSumsSpec.pre6 enc Try.prog Try.f8 Rows.fnExactHaveEqualSumsRow.domain false) (Rows.fnExactHaveEqualSumsSpec.post enc Try.prog Try.f8 false true false false) := by
  refine returnsInHanded_of_change_sized (C := Try.checked) own started (by kernel_rfl) Try.func8
    (ChangeSpec.witness6 (enc := enc) (C := Try.checked) false ⟨#[], #[.agg #[.int .i64 0, .int .i64 0, .int .i64 0, .int .i64 0, .slice none 0 0], .agg #[.int .i64 0, .int .i64 0, .int .i64 0, .int .i64 0, .slice none 0 0]], []⟩ 8 (by kernel_rfl) (by kernel_rfl) (by kernel_rfl) (by kernel_rfl)) ?_
  intro W base args ds gs before hval0 hW hcnd hsz0 _
  have hval : ∀ (j : Nat) t v, Try.f8.params[j]? = some t → args[j]? = some v → Value.okWide Try.prog W .any base t v := hval0
  have hW' := hW
  obtain ⟨p, q, hA0, hV, rfl, hfz, hnd⟩ := hW
  have hA : DataW.TrodAll enc Try.prog W 0 (fun _ => true) true Try.f8.params.toList args.toList ds p := hA0
  rw [Try.params8] at hA hval
  obtain ⟨v0, vs0, d0, ds0, p0, q0, hargs0, rfl, rfl, h0, r0⟩ := trodAll_cons hA
  obtain ⟨v1, vs1, d1, ds1, p1, q1, hargs1, rfl, rfl, h1, r1⟩ := trodAll_cons r0
  obtain ⟨rfl, rfl, rfl⟩ := trodAll_nil r1
  obtain rfl : args = #[v0, v1] := by cases args; simp_all
  obtain ⟨rfl, rfl⟩ := trodVars_none hV
  obtain ⟨a0, b0, c0, e0, ns0, u0, γ0, g0, pg0, ph0, A0, hv0, hy0, hl0, hw0⟩ := adm_sch (Adm.nil Try.prog W) 126 4 27 shapeX h0
  have hi0 : Prods g0 u0 ns0 := ⟨hy0, fun i hi j hj => u8_in (hw0 i hi j hj)⟩
  have hl0' : (ns0.length : Int) ≤ 9223372036854775807 := by
    have : ns0.length ≤ 2 ^ 63 - 1 := hl0
    omega
  obtain ⟨a1, b1, c1, e1, ns1, u1, γ1, g1, pg1, ph1, A1, hv1, hy1, hl1, hw1⟩ := adm_sch A0 126 4 27 shapeX h1
  have hi1 : Prods g1 u1 ns1 := ⟨hy1, fun i hi j hj => u8_in (hw1 i hi j hj)⟩
  have hl1' : (ns1.length : Int) ≤ 9223372036854775807 := by
    have : ns1.length ≤ 2 ^ 63 - 1 := hl1
    omega
  have hi0' := hi0.pre (ph1)
  have hi1' := hi1
  have key := law_HaveEqualSums (x0 := ⟨a0, b0, c0, e0, ns0⟩) (x1 := ⟨a1, b1, c1, e1, ns1⟩) hi0' hl0' hi1' hl1'
  refine (calls_of_WF (S := S) orders esound tsound A1 (VRL.cons (hv0.mono (pg1)) (VRL.cons hv1 (VRL.nil _))) key).mono fun e W' ⟨v, u, γ1, h1, he, hvr, hb, bel⟩ => ?_
  subst hb
  obtain rfl := hvr.bool_inv
  subst he
  have st := stays_all laid bel (ts := [43, 43]) (fun t ht => by
    simp only [List.mem_cons, List.not_mem_nil, or_false] at ht
    rcases ht with rfl | rfl
    · exact ⟨readable0, intable0⟩
    · exact ⟨readable0, intable0⟩) hA
  exact ⟨_, rfl, _, _, _, [], _, [], hW', trodAll_mk1 (shut_bool isbool _), st, rfl, bel.frame _, fun h => by cases h⟩
theorem over : Rows.fnExactHaveEqualSumsRow.holds Try.pinned (OpenSpec.ofChange Rows.fnExactHaveEqualSumsSpec) :=
  OpenClaim.holds_of_wide 8 Try.f8 rfl rfl rfl rfl rfl rfl rfl ⟨rfl, rfl, rfl, rfl, rfl⟩ rfl rfl rfl rfl rfl (by kernel_rfl) Try.func8 (by kernel_rfl)
    (of_decide_eq_true (by kernel_rfl)) (by unfold Func.isWrapper; first | (rw [if_pos (by decide +kernel)]; kernel_rfl) | (rw [if_neg (by decide +kernel)]; exact ⟨rfl, rfl⟩))
    (fun os started H enc _ => lifted os started H enc)
end Go.Proofs.Ytphklalbkpohfaa.fnExactHaveEqualSums
namespace Go.Proofs.Ytphklalbkpohfaa
theorem fnExactHaveEqualSums_holds : Rows.FnExactHaveEqualSumsSaid := fnExactHaveEqualSums.over
end Go.Proofs.Ytphklalbkpohfaa
