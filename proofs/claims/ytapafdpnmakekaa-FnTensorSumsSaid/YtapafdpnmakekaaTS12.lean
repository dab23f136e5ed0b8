/- Texts of one claim, put together by merge.py: XDE, XArgs, XA2, XA3, XA5, XHTSM. -/
import Derived.Test.YtapafdpnmakekaaTS11
import Derived.Test.YtapafdpnmakekaaTS10
import Derived.Test.YtapafdpnmakekaaTS7
import Derived.Test.YtapafdpnmakekaaTS3
import Derived.Deep.Slices
import Derived.WideKeyArgs
import Derived.ChangeOld
import Derived.ChangeArms
import Derived.OpenShut
import Derived.Test.YtapafdpnmakekaaTS8
import Derived.Test.YtapafdpnmakekaaRows
import Derived.ProofKit
import Derived.ShutString
import Derived.Below
import Derived.SizedLaws
/- Sums and products of drawn tensors: the law. -/
set_option linter.unusedVariables false
set_option linter.unusedSimpArgs false
set_option maxRecDepth 20000
set_option maxHeartbeats 4000000
namespace Go.Proofs.Ytapafdpnmakekaa.X
open Go Go.RowKit

theorem elim_le {p : Int} {w : Nat} (hp : 2 ≤ p) : ∀ {m : Nat} {T : List (List Int)} {r c : Nat}, Good p T w → r ≤ T.length → elim p T r c m ≤ T.length
  | 0, T, r, c, g, h => h
  | m + 1, T, r, c, g, h => by
    obtain ⟨g1, g2, g3⟩ := g.colStep (c := c) hp h
    unfold elim
    rw [← g2]
    exact elim_le hp g1 (by omega)
theorem flG_in {t : Ten} (f : TF t) (s : Nat) : 0 ≤ flG t s ∧ flG t s ≤ 9 := by
  have fu := TF.turnN (n := s) f
  have g := flatU_good fu
  have := elim_le (p := t.p) (w := ((turnN s t).j * (turnN s t).k).toNat) (by have := f.p; omega) (m := ((flatU (turnN s t)).getD 0 []).length) (r := 0) (c := 0) (by rw [← turnN_p (n := s) (t := t)]; exact g.1) (Nat.zero_le _)
  have hi := fu.i
  rw [g.2.1] at this
  unfold flG rankN
  omega
theorem TenB.l {t : Ten} (b : TenB t) : (t.ns.length : Int) ≤ 1048576 := by
  have := b.ns
  omega

theorem isT_of {t : Ten} (f : TF t) (hp : isP t.p = true) : isT t = true := by
  unfold isT
  simp only [Bool.and_eq_true, decide_eq_true_eq]
  refine ⟨⟨⟨⟨⟨hp, side_iff.2 f.i⟩, side_iff.2 f.j⟩, side_iff.2 f.k⟩, f.len⟩, allIn_iff.2 fun j hj => ?_⟩
  have := f.num j (by omega) (by omega)
  simpa [nth] using this
theorem dsR_0 {t u : Ten} (h : (dsR t u).2 = 0) : (isT t = true ∧ isT u = true) ∧ t.p = u.p ∧ (t.i + u.i ≤ 9 ∧ t.j + u.j ≤ 9 ∧ t.k + u.k ≤ 9) ∧ (dsR t u).1 = dsT t u ∧ isT (dsT t u) = true := by
  unfold dsR at h ⊢
  split at h
  · rename_i h1
    split at h
    · rename_i h2
      split at h
      · rename_i h3
        rw [if_pos h1, if_pos h2, if_pos h3]
        have hP : isP t.p = true := isT_isP h1.1
        exact ⟨h1, h2, h3, rfl, isT_of (ds_tf (isT_facts h1.1) (isT_facts h1.2) h3) (show isP (dsT t u).p = true from hP)⟩
      · simp at h
    · simp at h
  · simp at h
theorem krR_0 {t u : Ten} (h : (krR t u).2 = 0) : (isT t = true ∧ isT u = true) ∧ t.p = u.p ∧ (t.i * u.i ≤ 9 ∧ t.j * u.j ≤ 9 ∧ t.k * u.k ≤ 9) ∧ (krR t u).1 = krT t u ∧ isT (krT t u) = true := by
  unfold krR at h ⊢
  split at h
  · rename_i h1
    split at h
    · rename_i h2
      split at h
      · rename_i h3
        rw [if_pos h1, if_pos h2, if_pos h3]
        have hP : isP t.p = true := isT_isP h1.1
        exact ⟨h1, h2, h3, rfl, isT_of (kr_tf (isT_facts h1.1) (isT_facts h1.2) h3) (show isP (krT t u).p = true from hP)⟩
      · simp at h
    · simp at h
  · simp at h
theorem turnR_0 {t : Ten} (h : (turnR t).2 = 0) : isT t = true ∧ (turnR t).1 = turnT t ∧ isT (turnT t) = true := by
  unfold turnR at h ⊢
  split at h
  · rename_i h1
    rw [if_pos h1]
    have hP : isP t.p = true := isT_isP h1
    exact ⟨h1, rfl, isT_of (isT_facts h1).turned (show isP (turnT t).p = true from hP)⟩
  · simp at h
theorem IfW_join {S : XS} {b : Bool} {A B REST : IR} {f : Fr} {h : AH} {R : XE → Fr → AH → Prop} (I : Fr → AH → Prop) (w1 : b = true → WC S A f h (JnQ I)) (w2 : b = false → WC S B f h (JnQ I)) (hr : ∀ f h, I f h → WC S REST f h R) :
    IfW (.bool b) (WC S A f h (SeqQ S REST R)) (WC S B f h (SeqQ S REST R)) := by
  have go : ∀ {A : IR}, WC S A f h (JnQ I) → WC S A f h (SeqQ S REST R) := fun w => WC.mono w fun e f2 h2 q2 => by
    cases e with
    | normal => exact hr f2 h2 q2
    | exit id => exact q2.elim
    | ret => exact q2.elim
  cases b
  · exact go (w2 rfl)
  · exact go (w1 rfl)
theorem WO_mono' {S : XS} {A REST : IR} {f : Fr} {h : AH} {R : XE → Fr → AH → Prop} (I : Fr → AH → Prop) (w : WC S A f h (JnQ I)) (hr : ∀ f h, I f h → WC S REST f h R) : WC S A f h (SeqQ S REST R) :=
  WC.mono w fun e f2 h2 q2 => by
    cases e with
    | normal => exact hr f2 h2 q2
    | exit id => exact q2.elim
    | ret => exact q2.elim
theorem IfW_seq {S : XS} {b : Bool} {B REST : IR} {X : Prop} {f : Fr} {h : AH} {R : XE → Fr → AH → Prop} (hb : b = false) (I : Fr → AH → Prop) (w : WC S B f h (JnQ I)) (hr : ∀ f h, I f h → WC S REST f h R) :
    IfW (.bool b) X (WC S .skip f h (SeqQ S (.seq B REST) R)) := by
  subst hb
  show WC S .skip f h (SeqQ S (.seq B REST) R)
  rw [WC_skip]
  show WC S (.seq B REST) f h R
  rw [WC_seq]
  exact WO_mono' I w hr
/-- What the law keeps from part to part. -/
def Kcv (h : AH) (cv : Value) (f : Fr) (h' : AH) : Prop := f 0 = cv ∧ h <+: h'

theorem i_Ranks {v : Value} {t : Ten} {h : AH} {Q : Value → AH → Prop} (hv : Ints h v t.ns) (ht : isT t = true)
    (hQ : ∀ v' h', h <+: h' → Ints h' v' (gen 3 (flG t)) → Q (.tuple #[v', I64 0]) h') : WF S 30 [tenV t v] h Q := by
  refine i_FlattenRanks hv (by have := (isT_facts ht).len; have := (isT_facts ht).ijk; omega) fun v' h' p o => ?_
  have e : flR t = (gen 3 (flG t), 0) := if_pos ht
  rw [e] at o ⊢
  exact hQ v' h' p o.ints
theorem addR_0 {t u : Ten} {c : Int} (h : (addR t u c).2 = 0) : (isT t = true ∧ isT u = true) ∧ (t.p = u.p ∧ t.i = u.i ∧ t.j = u.j ∧ t.k = u.k ∧ 0 ≤ c ∧ c < t.p) ∧ (addR t u c).1 = addT t u c := by
  unfold addR at h ⊢
  split at h
  · rename_i h1
    split at h
    · rename_i h2
      rw [if_pos h1, if_pos h2]
      exact ⟨h1, h2, rfl⟩
    · simp at h
  · simp at h
theorem add_isT {t u : Ten} {c : Int} (h : (addR t u c).2 = 0) : isT (addT t u c) = true := by
  obtain ⟨h1, h2, _⟩ := addR_0 h
  have f := add_tf (isT_facts h1.1) (isT_facts h1.2) h2.2.2.2.2.1 ⟨h2.2.1, h2.2.2.1, h2.2.2.2.1⟩
  have hP : isP t.p = true := isT_isP h1.1
  exact isT_of f (show isP (addT t u c).p = true from hP)

theorem law_TensorSums {h : AH} {cv : Value} {code : List (List Int)} (c : Els .u8 1 h cv code) (b : Byt 1 code) : WF S 4 [cv] h (fun v _ => v = .bool true) := by
  refine WF_fn (fn := c4) rfl rfl ?_
  unfold c4
  ((try simp (maxSteps := 3000000) (dsimp := false) (disch := first | omega | (simp only [len_new, len_put, len_kill]; omega)) only [↓ypre, ypost, ↓reduceIte, Nat.reduceEqDiff, Nat.reduceAdd, Nat.reduceSub, Nat.reduceLeDiff, Nat.zero_add, Nat.sub_zero, ynew]); try simp only [yback])
  refine l_big c ?_
  by_cases hbig : (code.length : Int) > 4096
  · ((try simp (maxSteps := 3000000) (dsimp := false) (disch := first | omega | (simp only [len_new, len_put, len_kill]; omega)) only [↓ypre, ypost, ↓reduceIte, Nat.reduceEqDiff, Nat.reduceAdd, Nat.reduceSub, Nat.reduceLeDiff, Nat.zero_add, Nat.sub_zero, ynew, decide_eq_true hbig]); try simp only [yback])
  ((try simp (maxSteps := 3000000) (dsimp := false) (disch := first | omega | (simp only [len_new, len_put, len_kill]; omega)) only [↓ypre, ypost, ↓reduceIte, Nat.reduceEqDiff, Nat.reduceAdd, Nat.reduceSub, Nat.reduceLeDiff, Nat.zero_add, Nat.sub_zero, ynew, decide_eq_false hbig]); try simp only [yback])
  have c : Cod h cv code := ⟨c, b, by omega⟩
  refine s_DrawAddTensors c fun t u v w r H1 p1 hv hw tb ub => ?_
  have c1 := c.pre p1
  refine WO_cut (fun f : Fr => f 0 = cv ∧ f 55 = .tuple #[tenV t v, tenV u w, I64 r] ∧ True) ⟨(by first | rfl | (simp [upd_apply]; done)), (by first | rfl | (simp [upd_apply]; done)), trivial⟩ ?_
  rintro f ⟨f0, f55, -⟩
  ((try simp (maxSteps := 3000000) (dsimp := false) (disch := first | omega | (simp only [len_new, len_put, len_kill]; omega)) only [↓ypre, ypost, ↓reduceIte, Nat.reduceEqDiff, Nat.reduceAdd, Nat.reduceSub, Nat.reduceLeDiff, Nat.zero_add, Nat.sub_zero, ynew, f0, f55, tenV, hv.one, hw.one]); try simp only [yback])
  simp only [len_new]
  generalize hH2 : AH.new H1 _ = H2
  obtain ⟨hb2, p2, n2⟩ := new_facts hH2
  generalize hH3 : AH.new H2 _ = H3
  obtain ⟨hb3, p3, n3⟩ := new_facts hH3
  rw [n2] at hb3
  have hb2 := pre_get p3 hb2
  ((try simp (maxSteps := 3000000) (dsimp := false) (disch := first | omega | (simp only [len_new, len_put, len_kill]; omega)) only [↓ypre, ypost, ↓reduceIte, Nat.reduceEqDiff, Nat.reduceAdd, Nat.reduceSub, Nat.reduceLeDiff, Nat.zero_add, Nat.sub_zero, ynew, f0, f55, wr_of hb3, splice_eq, rdn_of hb2]); try simp only [yback])
  generalize hH4 : AH.put H3 _ _ = H4
  obtain ⟨q4, l4, o4, u4⟩ := put_facts hH4
  have g3 := o4 (get_lt hb3)
  have g2 := q4 H1.length _ (by omega) hb2
  have pB : H1 <+: H4 := hH4 ▸ pre_put (p2.trans p3) (by omega)
  ((try simp (maxSteps := 3000000) (dsimp := false) (disch := first | omega | (simp only [len_new, len_put, len_kill]; omega)) only [↓ypre, ypost, ↓reduceIte, Nat.reduceEqDiff, Nat.reduceAdd, Nat.reduceSub, Nat.reduceLeDiff, Nat.zero_add, Nat.sub_zero, ynew, f0, f55, rdn_of g2, rdn_of g3]); try simp only [yback])
  refine i_AddTensors (t := t) (u := u) (c := r) (hv.pre pB) tb.l (hw.pre pB) ub.l fun v1 H5 p5 o5 => ?_
  have hq : (((addR t u r).1.ns.length : Nat) : Int) ≤ 1048576 := addR_len t u r
  generalize hR : addR t u r = R at o5 hq
  have g2 := pre_get p5 g2
  have g3 := pre_get p5 g3
  refine WO_cut (fun f : Fr => f 0 = cv ∧ f 3 = .pointer (some ⟨H1.length, 0, none⟩) ∧ f 4 = .pointer (some ⟨H1.length + 1, 0, none⟩) ∧ f 5 = I64 r ∧ f 63 = .tuple #[tenV R.1 v1, I64 R.2] ∧ True) ⟨(by first | rfl | exact f0 | (simp [upd_apply]; done) | (simp [upd_apply]; exact f0)), (by first | rfl | (simp [upd_apply]; done)), (by first | rfl | (simp [upd_apply]; done)), (by first | rfl | (simp [upd_apply]; done)), (by first | rfl | (simp [upd_apply]; done)), trivial⟩ ?_
  rintro f ⟨f0, f3, f4, f5, f63, -⟩
  ((try simp (maxSteps := 3000000) (dsimp := false) (disch := first | omega | (simp only [len_new, len_put, len_kill]; omega)) only [↓ypre, ypost, ↓reduceIte, Nat.reduceEqDiff, Nat.reduceAdd, Nat.reduceSub, Nat.reduceLeDiff, Nat.zero_add, Nat.sub_zero, ynew, f0, f3, f4, f5, f63, tenV, o5.ints.one]); try simp only [yback])
  generalize hH6 : AH.new H5 _ = H6
  obtain ⟨g6, p6, n6⟩ := new_facts hH6
  have g2 := pre_get p6 g2
  have g3 := pre_get p6 g3
  ((try simp (maxSteps := 3000000) (dsimp := false) (disch := first | omega | (simp only [len_new, len_put, len_kill]; omega)) only [↓ypre, ypost, ↓reduceIte, Nat.reduceEqDiff, Nat.reduceAdd, Nat.reduceSub, Nat.reduceLeDiff, Nat.zero_add, Nat.sub_zero, ynew, f0, f3, f4, f5, f63, rdn_of g2, rdn_of g3]); try simp only [yback])
  refine s_AddTensors (t := t) (u := u) (c := r) (hv.pre ((pB.trans p5).trans p6)) tb.l (hw.pre ((pB.trans p5).trans p6)) ub.l fun v2 H7 p7 o7 => ?_
  rw [hR] at o7
  have g2 := pre_get p7 g2
  have g3 := pre_get p7 g3
  have g6 := pre_get p7 g6
  simp only [hR]
  refine WO_cut (fun f : Fr => f 0 = cv ∧ f 3 = .pointer (some ⟨H1.length, 0, none⟩) ∧ f 4 = .pointer (some ⟨H1.length + 1, 0, none⟩) ∧ f 5 = I64 r ∧ f 6 = .pointer (some ⟨H5.length, 0, none⟩) ∧ f 7 = I64 R.2 ∧ f 70 = .tuple #[tenV R.1 v2, I64 R.2] ∧ True) ⟨(by first | rfl | exact f0 | (simp [upd_apply]; done) | (simp [upd_apply]; exact f0)), (by first | rfl | exact f3 | (simp [upd_apply]; done) | (simp [upd_apply]; exact f3)), (by first | rfl | exact f4 | (simp [upd_apply]; done) | (simp [upd_apply]; exact f4)), (by first | rfl | exact f5 | (simp [upd_apply]; done) | (simp [upd_apply]; exact f5)), (by first | rfl | (simp [upd_apply]; done)), (by first | rfl | (simp [upd_apply]; done)), (by first | rfl | (simp [upd_apply]; done)), trivial⟩ ?_
  rintro f ⟨f0, f3, f4, f5, f6, f7, f70, -⟩
  ((try simp (maxSteps := 3000000) (dsimp := false) (disch := first | omega | (simp only [len_new, len_put, len_kill]; omega)) only [↓ypre, ypost, ↓reduceIte, Nat.reduceEqDiff, Nat.reduceAdd, Nat.reduceSub, Nat.reduceLeDiff, Nat.zero_add, Nat.sub_zero, ynew, f0, f3, f4, f5, f6, f7, f70, tenV, o7.ints.one]); try simp only [yback])
  generalize hH8 : AH.new H7 _ = H8
  obtain ⟨g8, p8, n8⟩ := new_facts hH8
  have g2 := pre_get p8 g2
  have g3 := pre_get p8 g3
  have g6 := pre_get p8 g6
  ((try simp (maxSteps := 3000000) (dsimp := false) (disch := first | omega | (simp only [len_new, len_put, len_kill]; omega)) only [↓ypre, ypost, ↓reduceIte, Nat.reduceEqDiff, Nat.reduceAdd, Nat.reduceSub, Nat.reduceLeDiff, Nat.zero_add, Nat.sub_zero, ynew, f0, f3, f4, f5, f6, f7, f70, decide_eq_false (show ¬ R.2 ≠ R.2 from fun h => h rfl), rdn_of g6, rdn_of g8]); try simp only [yback])
  refine l_tensors5 (t := R.1) (o5.ints.pre ((p6.trans p7).trans p8)) (o7.ints.pre p8) hq fun H9 p9 => ?_
  have g2 := pre_get p9 g2
  have g3 := pre_get p9 g3
  have g6 := pre_get p9 g6
  have pC := (((pB.trans p5).trans p6).trans ((p7.trans p8).trans p9))
  refine WO_cut (fun f : Fr => f 0 = cv ∧ f 3 = .pointer (some ⟨H1.length, 0, none⟩) ∧ f 4 = .pointer (some ⟨H1.length + 1, 0, none⟩) ∧ f 6 = .pointer (some ⟨H5.length, 0, none⟩) ∧ f 7 = I64 R.2 ∧ f 76 = .bool false ∧ f 79 = .bool true ∧ True) ⟨(by first | rfl | exact f0 | (simp [upd_apply]; done) | (simp [upd_apply]; exact f0)), (by first | rfl | exact f3 | (simp [upd_apply]; done) | (simp [upd_apply]; exact f3)), (by first | rfl | exact f4 | (simp [upd_apply]; done) | (simp [upd_apply]; exact f4)), (by first | rfl | exact f6 | (simp [upd_apply]; done) | (simp [upd_apply]; exact f6)), (by first | rfl | exact f7 | (simp [upd_apply]; done) | (simp [upd_apply]; exact f7)), (by first | rfl | (simp [upd_apply]; done)), (by first | rfl | (simp [upd_apply]; done)), trivial⟩ ?_
  rintro f ⟨f0, f3, f4, f6, f7, f76, f79, -⟩
  ((try simp (maxSteps := 3000000) (dsimp := false) (disch := first | omega | (simp only [len_new, len_put, len_kill]; omega)) only [↓ypre, ypost, ↓reduceIte, Nat.reduceEqDiff, Nat.reduceAdd, Nat.reduceSub, Nat.reduceLeDiff, Nat.zero_add, Nat.sub_zero, ynew, f0, f3, f4, f6, f7, f76, f79, rdn_of g2]); try simp only [yback])
  refine i_IsTensor (t := t) (hv.pre pC) tb.l fun HA pA => ?_
  refine ⟨pA, ?_⟩
  have g2 := pre_get pA g2
  have g3 := pre_get pA g3
  have g6 := pre_get pA g6
  refine WO_cut (fun f : Fr => f 0 = cv ∧ f 3 = .pointer (some ⟨H1.length, 0, none⟩) ∧ f 4 = .pointer (some ⟨H1.length + 1, 0, none⟩) ∧ f 6 = .pointer (some ⟨H5.length, 0, none⟩) ∧ f 7 = I64 R.2 ∧ f 82 = .bool false ∧ f 84 = .bool (isT t) ∧ True) ⟨(by first | rfl | exact f0 | (simp [upd_apply]; done) | (simp [upd_apply]; exact f0)), (by first | rfl | exact f3 | (simp [upd_apply]; done) | (simp [upd_apply]; exact f3)), (by first | rfl | exact f4 | (simp [upd_apply]; done) | (simp [upd_apply]; exact f4)), (by first | rfl | exact f6 | (simp [upd_apply]; done) | (simp [upd_apply]; exact f6)), (by first | rfl | exact f7 | (simp [upd_apply]; done) | (simp [upd_apply]; exact f7)), (by first | rfl | (simp [upd_apply]; done)), (by first | rfl | (simp [upd_apply]; done)), trivial⟩ ?_
  rintro f ⟨f0, f3, f4, f6, f7, f82, f84, -⟩
  ((try simp (maxSteps := 3000000) (dsimp := false) (disch := first | omega | (simp only [len_new, len_put, len_kill]; omega)) only [↓ypre, ypost, ↓reduceIte, Nat.reduceEqDiff, Nat.reduceAdd, Nat.reduceSub, Nat.reduceLeDiff, Nat.zero_add, Nat.sub_zero, ynew, f0, f3, f4, f6, f7, f82, f84, rdn_of g2]); try simp only [yback])
  refine s_IsTensor (t := t) (hv.pre (pC.trans pA)) tb.l fun HB pB' => ?_
  have g2 := pre_get pB' g2
  have g3 := pre_get pB' g3
  have g6 := pre_get pB' g6
  refine WO_cut (fun f : Fr => f 0 = cv ∧ f 3 = .pointer (some ⟨H1.length, 0, none⟩) ∧ f 4 = .pointer (some ⟨H1.length + 1, 0, none⟩) ∧ f 6 = .pointer (some ⟨H5.length, 0, none⟩) ∧ f 7 = I64 R.2 ∧ f 82 = .bool false ∧ f 84 = .bool (isT t) ∧ f 86 = .bool (isT t) ∧ True) ⟨(by first | rfl | exact f0 | (simp [upd_apply]; done) | (simp [upd_apply]; exact f0)), (by first | rfl | exact f3 | (simp [upd_apply]; done) | (simp [upd_apply]; exact f3)), (by first | rfl | exact f4 | (simp [upd_apply]; done) | (simp [upd_apply]; exact f4)), (by first | rfl | exact f6 | (simp [upd_apply]; done) | (simp [upd_apply]; exact f6)), (by first | rfl | exact f7 | (simp [upd_apply]; done) | (simp [upd_apply]; exact f7)), (by first | rfl | exact f82 | (simp [upd_apply]; done) | (simp [upd_apply]; exact f82)), (by first | rfl | exact f84 | (simp [upd_apply]; done) | (simp [upd_apply]; exact f84)), (by first | rfl | (simp [upd_apply]; done)), trivial⟩ ?_
  rintro f ⟨f0, f3, f4, f6, f7, f82, f84, f86, -⟩
  ((try simp (maxSteps := 3000000) (dsimp := false) (disch := first | omega | (simp only [len_new, len_put, len_kill]; omega)) only [↓ypre, ypost, ↓reduceIte, Nat.reduceEqDiff, Nat.reduceAdd, Nat.reduceSub, Nat.reduceLeDiff, Nat.zero_add, Nat.sub_zero, ynew, f0, f3, f4, f6, f7, f82, f84, f86, show ((isT t == isT t) != true) = false by simp]); try simp only [yback])
  refine IfW_join (Kcv h cv) (fun hc => ?_) (fun _ => ?_) ?_
  · have hc := of_decide_eq_true hc
    obtain ⟨h1, h2, h3⟩ := addR_0 (show (addR t u r).2 = 0 by rw [hR]; exact hc)
    have h4 := add_isT (show (addR t u r).2 = 0 by rw [hR]; exact hc)
    rw [hR] at h3
    rw [← h3] at h4
    have pD := pC.trans (pA.trans pB')
    ((try simp (maxSteps := 3000000) (dsimp := false) (disch := first | omega | (simp only [len_new, len_put, len_kill]; omega)) only [↓ypre, ypost, ↓reduceIte, Nat.reduceEqDiff, Nat.reduceAdd, Nat.reduceSub, Nat.reduceLeDiff, Nat.zero_add, Nat.sub_zero, ynew, f0, f3, f4, f6, f7, f82, f84, f86, rdn_of g2]); try simp only [yback])
    refine i_Ranks (t := t) (hv.pre pD) h1.1 fun a1 HC pC' b1 => ?_
    have g3 := pre_get pC' g3
    have g6 := pre_get pC' g6
    refine WO_cut (fun f : Fr => f 0 = cv ∧ f 4 = .pointer (some ⟨H1.length + 1, 0, none⟩) ∧ f 6 = .pointer (some ⟨H5.length, 0, none⟩) ∧ f 93 = .tuple #[a1, I64 0] ∧ True) ⟨(by first | rfl | exact f0 | (simp [upd_apply]; done) | (simp [upd_apply]; exact f0)), (by first | rfl | exact f4 | (simp [upd_apply]; done) | (simp [upd_apply]; exact f4)), (by first | rfl | exact f6 | (simp [upd_apply]; done) | (simp [upd_apply]; exact f6)), (by first | rfl | (simp [upd_apply]; done)), trivial⟩ ?_
    rintro f ⟨f0, f4, f6, f93, -⟩
    ((try simp (maxSteps := 3000000) (dsimp := false) (disch := first | omega | (simp only [len_new, len_put, len_kill]; omega)) only [↓ypre, ypost, ↓reduceIte, Nat.reduceEqDiff, Nat.reduceAdd, Nat.reduceSub, Nat.reduceLeDiff, Nat.zero_add, Nat.sub_zero, ynew, f0, f4, f6, f93, rdn_of g3]); try simp only [yback])
    refine i_Ranks (t := u) (hw.pre (pD.trans pC')) h1.2 fun a2 HD pD' b2 => ?_
    have g6 := pre_get pD' g6
    refine WO_cut (fun f : Fr => f 0 = cv ∧ f 4 = .pointer (some ⟨H1.length + 1, 0, none⟩) ∧ f 6 = .pointer (some ⟨H5.length, 0, none⟩) ∧ f 10 = a1 ∧ f 11 = I64 0 ∧ f 98 = .tuple #[a2, I64 0] ∧ True) ⟨(by first | rfl | exact f0 | (simp [upd_apply]; done) | (simp [upd_apply]; exact f0)), (by first | rfl | exact f4 | (simp [upd_apply]; done) | (simp [upd_apply]; exact f4)), (by first | rfl | exact f6 | (simp [upd_apply]; done) | (simp [upd_apply]; exact f6)), (by first | rfl | (simp [upd_apply]; done)), (by first | rfl | (simp [upd_apply]; done)), (by first | rfl | (simp [upd_apply]; done)), trivial⟩ ?_
    rintro f ⟨f0, f4, f6, f10, f11, f98, -⟩
    ((try simp (maxSteps := 3000000) (dsimp := false) (disch := first | omega | (simp only [len_new, len_put, len_kill]; omega)) only [↓ypre, ypost, ↓reduceIte, Nat.reduceEqDiff, Nat.reduceAdd, Nat.reduceSub, Nat.reduceLeDiff, Nat.zero_add, Nat.sub_zero, ynew, f0, f4, f6, f10, f11, f98, rdn_of g6]); try simp only [yback])
    refine i_Ranks (t := R.1) (o5.ints.pre ((((p6.trans p7).trans p8).trans (p9.trans (pA.trans pB'))).trans (pC'.trans pD'))) h4 fun a3 HE pE b3 => ?_
    have b1 := b1.pre (pD'.trans pE)
    have b2 := b2.pre pE
    refine WO_cut (fun f : Fr => f 0 = cv ∧ f 10 = a1 ∧ f 11 = I64 0 ∧ f 12 = a2 ∧ f 13 = I64 0 ∧ f 103 = .tuple #[a3, I64 0] ∧ True) ⟨(by first | rfl | exact f0 | (simp [upd_apply]; done) | (simp [upd_apply]; exact f0)), (by first | rfl | exact f10 | (simp [upd_apply]; done) | (simp [upd_apply]; exact f10)), (by first | rfl | exact f11 | (simp [upd_apply]; done) | (simp [upd_apply]; exact f11)), (by first | rfl | (simp [upd_apply]; done)), (by first | rfl | (simp [upd_apply]; done)), (by first | rfl | (simp [upd_apply]; done)), trivial⟩ ?_
    rintro f ⟨f0, f10, f11, f12, f13, f103, -⟩
    have c1 := b1.len
    have c2 := b2.len
    have c3 := b3.len
    rw [gen_len] at c1 c2 c3
    have d0 : decide ((0 : Int) ≠ 0) = false := by decide
    have d3 : decide (((3 : Nat) : Int) ≠ 3) = false := by decide
    have pF : h <+: HE := p1.trans (pD.trans (pC'.trans (pD'.trans pE)))
    ((try simp (maxSteps := 3000000) (dsimp := false) (disch := first | omega | (simp only [len_new, len_put, len_kill]; omega)) only [↓ypre, ypost, ↓reduceIte, Nat.reduceEqDiff, Nat.reduceAdd, Nat.reduceSub, Nat.reduceLeDiff, Nat.zero_add, Nat.sub_zero, ynew, f0, f10, f11, f12, f13, f103, c1, c2, c3, d0, d3]); try simp only [yback])
    refine WC_loop_inv (fun m f K1 => ∃ (i : Nat), m = 3 - i ∧ i ≤ 3 ∧ f 0 = cv ∧ f 10 = a1 ∧ f 12 = a2 ∧ f 14 = a3 ∧ f 16 = I64 i ∧ (K1 = HE)) ?_ (3 - 0) _ _ ⟨0, rfl, by omega, (by first | rfl | exact f0 | (simp [upd_apply]; done)), (by first | rfl | exact f10 | (simp [upd_apply]; done)), (by first | rfl | exact f12 | (simp [upd_apply]; done)), (by first | rfl | (simp [upd_apply]; done)), (by first | rfl | (simp [upd_apply]; done)), rfl⟩
    rintro m f K1 ⟨i, rfl, hi, f0, f10, f12, f14, f16, hK⟩
    subst hK
    by_cases hlt : (i : Int) < 3
    · obtain ⟨m1, of1, hix1, hrd1⟩ := b1.cell (j := i) (by rw [gen_len]; omega)
      obtain ⟨m2, of2, hix2, hrd2⟩ := b2.cell (j := i) (by rw [gen_len]; omega)
      obtain ⟨m3, of3, hix3, hrd3⟩ := b3.cell (j := i) (by rw [gen_len]; omega)
      rw [gen_get (by omega)] at hrd1 hrd2 hrd3
      have e1 := flG_in (isT_facts h1.1) i
      have e2 := flG_in (isT_facts h1.2) i
      have e3 := fl_add (isT_facts h1.1) (isT_facts h1.2) (isT_isP h1.1) h2.1 (c := r) h2.2.2.2.2.1 ⟨h2.2.1, h2.2.2.1, h2.2.2.2.1⟩ (s := i) (by omega)
      rw [← h3] at e3
      have d1 := decide_eq_false (show ¬ flG R.1 i > flG t i + flG u i by omega)
      ((try simp (maxSteps := 3000000) (dsimp := false) (disch := first | omega | (simp only [len_new, len_put, len_kill]; omega)) only [↓ypre, ypost, ↓reduceIte, Nat.reduceEqDiff, Nat.reduceAdd, Nat.reduceSub, Nat.reduceLeDiff, Nat.zero_add, Nat.sub_zero, ynew, f0, f10, f12, f14, f16, decide_eq_true hlt, hix1, hrd1, hix2, hrd2, hix3, hrd3, wrap64_in, d1]); try simp only [yback])
      refine InvQ_go (3 - (i + 1)) (by omega) ⟨(i + 1), rfl, by omega, (by first | rfl | exact f0 | (simp only [upd_apply]; rfl) | (show I64 _ = _; congr 1; omega)), (by first | rfl | exact f10 | (simp only [upd_apply]; rfl) | (show I64 _ = _; congr 1; omega)), (by first | rfl | exact f12 | (simp only [upd_apply]; rfl) | (show I64 _ = _; congr 1; omega)), (by first | rfl | exact f14 | (simp only [upd_apply]; rfl) | (show I64 _ = _; congr 1; omega)), (by first | rfl | exact f16 | (simp only [upd_apply]; rfl) | (show I64 _ = _; congr 1; omega)), rfl⟩
    · ((try simp (maxSteps := 3000000) (dsimp := false) (disch := first | omega | (simp only [len_new, len_put, len_kill]; omega)) only [↓ypre, ypost, ↓reduceIte, Nat.reduceEqDiff, Nat.reduceAdd, Nat.reduceSub, Nat.reduceLeDiff, Nat.zero_add, Nat.sub_zero, ynew, f0, f10, f12, f14, f16, decide_eq_false hlt]); try simp only [yback])
      rw [JnQ_n]
      exact ⟨f0, pF⟩
  · ((try simp (maxSteps := 3000000) (dsimp := false) (disch := first | omega | (simp only [len_new, len_put, len_kill]; omega)) only [↓ypre, ypost, ↓reduceIte, Nat.reduceEqDiff, Nat.reduceAdd, Nat.reduceSub, Nat.reduceLeDiff, Nat.zero_add, Nat.sub_zero, ynew]); try simp only [yback])
    rw [JnQ_n]
    exact ⟨by first | rfl | exact f0, p1.trans (pC.trans (pA.trans pB'))⟩
  rintro f HX ⟨f0, pX⟩
  ((try simp (maxSteps := 3000000) (dsimp := false) (disch := first | omega | (simp only [len_new, len_put, len_kill]; omega)) only [↓ypre, ypost, ↓reduceIte, Nat.reduceEqDiff, Nat.reduceAdd, Nat.reduceSub, Nat.reduceLeDiff, Nat.zero_add, Nat.sub_zero, ynew, f0]); try simp only [yback])
  refine s_DrawDirectSum (c.pre pX) fun t u v w H1 p1 hv hw tb ub => ?_
  refine WO_cut (fun f : Fr => f 0 = cv ∧ f 151 = .tuple #[tenV t v, tenV u w] ∧ True) ⟨(by first | rfl | exact f0 | (simp [upd_apply]; done) | (simp [upd_apply]; exact f0)), (by first | rfl | (simp [upd_apply]; done)), trivial⟩ ?_
  rintro f ⟨f0, f151, -⟩
  ((try simp (maxSteps := 3000000) (dsimp := false) (disch := first | omega | (simp only [len_new, len_put, len_kill]; omega)) only [↓ypre, ypost, ↓reduceIte, Nat.reduceEqDiff, Nat.reduceAdd, Nat.reduceSub, Nat.reduceLeDiff, Nat.zero_add, Nat.sub_zero, ynew, f0, f151, tenV, hv.one, hw.one]); try simp only [yback])
  simp only [len_new]
  generalize hH2 : AH.new H1 _ = H2
  obtain ⟨hb2, p2, n2⟩ := new_facts hH2
  generalize hH3 : AH.new H2 _ = H3
  obtain ⟨hb3, p3, n3⟩ := new_facts hH3
  rw [n2] at hb3
  have hb2 := pre_get p3 hb2
  ((try simp (maxSteps := 3000000) (dsimp := false) (disch := first | omega | (simp only [len_new, len_put, len_kill]; omega)) only [↓ypre, ypost, ↓reduceIte, Nat.reduceEqDiff, Nat.reduceAdd, Nat.reduceSub, Nat.reduceLeDiff, Nat.zero_add, Nat.sub_zero, ynew, f0, f151, wr_of hb3, splice_eq, rdn_of hb2]); try simp only [yback])
  generalize hH4 : AH.put H3 _ _ = H4
  obtain ⟨q4, l4, o4, u4⟩ := put_facts hH4
  have g3 := o4 (get_lt hb3)
  have g2 := q4 H1.length _ (by omega) hb2
  have pB : H1 <+: H4 := hH4 ▸ pre_put (p2.trans p3) (by omega)
  ((try simp (maxSteps := 3000000) (dsimp := false) (disch := first | omega | (simp only [len_new, len_put, len_kill]; omega)) only [↓ypre, ypost, ↓reduceIte, Nat.reduceEqDiff, Nat.reduceAdd, Nat.reduceSub, Nat.reduceLeDiff, Nat.zero_add, Nat.sub_zero, ynew, f0, f151, rdn_of g2, rdn_of g3]); try simp only [yback])
  refine i_DirectSum (t := t) (u := u) (hv.pre pB) tb.l (hw.pre pB) ub.l fun v1 H5 p5 o5 => ?_
  have hq : (((dsR t u).1.ns.length : Nat) : Int) ≤ 1048576 := dsR_len t u
  generalize hR : dsR t u = R at o5 hq
  have g2 := pre_get p5 g2
  have g3 := pre_get p5 g3
  refine WO_cut (fun f : Fr => f 0 = cv ∧ f 17 = .pointer (some ⟨H1.length, 0, none⟩) ∧ f 18 = .pointer (some ⟨H1.length + 1, 0, none⟩) ∧ f 157 = .tuple #[tenV R.1 v1, I64 R.2] ∧ True) ⟨(by first | rfl | exact f0 | (simp [upd_apply]; done) | (simp [upd_apply]; exact f0)), (by first | rfl | (simp [upd_apply]; done)), (by first | rfl | (simp [upd_apply]; done)), (by first | rfl | (simp [upd_apply]; done)), trivial⟩ ?_
  rintro f ⟨f0, f17, f18, f157, -⟩
  ((try simp (maxSteps := 3000000) (dsimp := false) (disch := first | omega | (simp only [len_new, len_put, len_kill]; omega)) only [↓ypre, ypost, ↓reduceIte, Nat.reduceEqDiff, Nat.reduceAdd, Nat.reduceSub, Nat.reduceLeDiff, Nat.zero_add, Nat.sub_zero, ynew, f0, f17, f18, f157, tenV, o5.ints.one]); try simp only [yback])
  generalize hH6 : AH.new H5 _ = H6
  obtain ⟨g6, p6, n6⟩ := new_facts hH6
  have g2 := pre_get p6 g2
  have g3 := pre_get p6 g3
  ((try simp (maxSteps := 3000000) (dsimp := false) (disch := first | omega | (simp only [len_new, len_put, len_kill]; omega)) only [↓ypre, ypost, ↓reduceIte, Nat.reduceEqDiff, Nat.reduceAdd, Nat.reduceSub, Nat.reduceLeDiff, Nat.zero_add, Nat.sub_zero, ynew, f0, f17, f18, f157, rdn_of g2, rdn_of g3]); try simp only [yback])
  refine s_DirectSum (t := t) (u := u) (hv.pre ((pB.trans p5).trans p6)) tb.l (hw.pre ((pB.trans p5).trans p6)) ub.l fun v2 H7 p7 o7 => ?_
  rw [hR] at o7
  have g2 := pre_get p7 g2
  have g3 := pre_get p7 g3
  have g6 := pre_get p7 g6
  simp only [hR]
  refine WO_cut (fun f : Fr => f 0 = cv ∧ f 17 = .pointer (some ⟨H1.length, 0, none⟩) ∧ f 18 = .pointer (some ⟨H1.length + 1, 0, none⟩) ∧ f 19 = .pointer (some ⟨H5.length, 0, none⟩) ∧ f 20 = I64 R.2 ∧ f 163 = .tuple #[tenV R.1 v2, I64 R.2] ∧ True) ⟨(by first | rfl | exact f0 | (simp [upd_apply]; done) | (simp [upd_apply]; exact f0)), (by first | rfl | exact f17 | (simp [upd_apply]; done) | (simp [upd_apply]; exact f17)), (by first | rfl | exact f18 | (simp [upd_apply]; done) | (simp [upd_apply]; exact f18)), (by first | rfl | (simp [upd_apply]; done)), (by first | rfl | (simp [upd_apply]; done)), (by first | rfl | (simp [upd_apply]; done)), trivial⟩ ?_
  rintro f ⟨f0, f17, f18, f19, f20, f163, -⟩
  ((try simp (maxSteps := 3000000) (dsimp := false) (disch := first | omega | (simp only [len_new, len_put, len_kill]; omega)) only [↓ypre, ypost, ↓reduceIte, Nat.reduceEqDiff, Nat.reduceAdd, Nat.reduceSub, Nat.reduceLeDiff, Nat.zero_add, Nat.sub_zero, ynew, f0, f17, f18, f19, f20, f163, tenV, o7.ints.one]); try simp only [yback])
  generalize hH8 : AH.new H7 _ = H8
  obtain ⟨g8, p8, n8⟩ := new_facts hH8
  have g2 := pre_get p8 g2
  have g3 := pre_get p8 g3
  have g6 := pre_get p8 g6
  ((try simp (maxSteps := 3000000) (dsimp := false) (disch := first | omega | (simp only [len_new, len_put, len_kill]; omega)) only [↓ypre, ypost, ↓reduceIte, Nat.reduceEqDiff, Nat.reduceAdd, Nat.reduceSub, Nat.reduceLeDiff, Nat.zero_add, Nat.sub_zero, ynew, f0, f17, f18, f19, f20, f163, rdn_of g2, rdn_of g3]); try simp only [yback])
  have pG := (((pB.trans p5).trans p6).trans (p7.trans p8))
  have hqk : (((krR t u).1.ns.length : Nat) : Int) ≤ 1048576 := krR_len t u
  refine i_KroneckerTensors (t := t) (u := u) (hv.pre pG) tb.l (hw.pre pG) ub.l fun v3 H9 p9 o9 => ?_
  generalize hK : krR t u = K at o9 hqk
  have g2 := pre_get p9 g2
  have g3 := pre_get p9 g3
  have g6 := pre_get p9 g6
  have g8 := pre_get p9 g8
  refine WO_cut (fun f : Fr => f 0 = cv ∧ f 17 = .pointer (some ⟨H1.length, 0, none⟩) ∧ f 18 = .pointer (some ⟨H1.length + 1, 0, none⟩) ∧ f 19 = .pointer (some ⟨H5.length, 0, none⟩) ∧ f 20 = I64 R.2 ∧ f 21 = .pointer (some ⟨H7.length, 0, none⟩) ∧ f 22 = I64 R.2 ∧ f 169 = .tuple #[tenV K.1 v3, I64 K.2] ∧ True) ⟨(by first | rfl | exact f0 | (simp [upd_apply]; done) | (simp [upd_apply]; exact f0)), (by first | rfl | exact f17 | (simp [upd_apply]; done) | (simp [upd_apply]; exact f17)), (by first | rfl | exact f18 | (simp [upd_apply]; done) | (simp [upd_apply]; exact f18)), (by first | rfl | exact f19 | (simp [upd_apply]; done) | (simp [upd_apply]; exact f19)), (by first | rfl | exact f20 | (simp [upd_apply]; done) | (simp [upd_apply]; exact f20)), (by first | rfl | (simp [upd_apply]; done)), (by first | rfl | (simp [upd_apply]; done)), (by first | rfl | (simp [upd_apply]; done)), trivial⟩ ?_
  rintro f ⟨f0, f17, f18, f19, f20, f21, f22, f169, -⟩
  ((try simp (maxSteps := 3000000) (dsimp := false) (disch := first | omega | (simp only [len_new, len_put, len_kill]; omega)) only [↓ypre, ypost, ↓reduceIte, Nat.reduceEqDiff, Nat.reduceAdd, Nat.reduceSub, Nat.reduceLeDiff, Nat.zero_add, Nat.sub_zero, ynew, f0, f17, f18, f19, f20, f21, f22, f169, tenV, o9.ints.one]); try simp only [yback])
  generalize hHA : AH.new H9 _ = HA
  obtain ⟨gA, pA, nA⟩ := new_facts hHA
  have g2 := pre_get pA g2
  have g3 := pre_get pA g3
  have g6 := pre_get pA g6
  have g8 := pre_get pA g8
  ((try simp (maxSteps := 3000000) (dsimp := false) (disch := first | omega | (simp only [len_new, len_put, len_kill]; omega)) only [↓ypre, ypost, ↓reduceIte, Nat.reduceEqDiff, Nat.reduceAdd, Nat.reduceSub, Nat.reduceLeDiff, Nat.zero_add, Nat.sub_zero, ynew, f0, f17, f18, f19, f20, f21, f22, f169, rdn_of g2, rdn_of g3]); try simp only [yback])
  refine s_KroneckerTensors (t := t) (u := u) (hv.pre (pG.trans (p9.trans pA))) tb.l (hw.pre (pG.trans (p9.trans pA))) ub.l fun v4 HB pB' oB => ?_
  rw [hK] at oB
  have g2 := pre_get pB' g2
  have g3 := pre_get pB' g3
  have g6 := pre_get pB' g6
  have g8 := pre_get pB' g8
  have gA := pre_get pB' gA
  simp only [hK]
  refine WO_cut (fun f : Fr => f 0 = cv ∧ f 17 = .pointer (some ⟨H1.length, 0, none⟩) ∧ f 18 = .pointer (some ⟨H1.length + 1, 0, none⟩) ∧ f 19 = .pointer (some ⟨H5.length, 0, none⟩) ∧ f 20 = I64 R.2 ∧ f 21 = .pointer (some ⟨H7.length, 0, none⟩) ∧ f 22 = I64 R.2 ∧ f 23 = .pointer (some ⟨H9.length, 0, none⟩) ∧ f 24 = I64 K.2 ∧ f 175 = .tuple #[tenV K.1 v4, I64 K.2] ∧ True) ⟨(by first | rfl | exact f0 | (simp [upd_apply]; done) | (simp [upd_apply]; exact f0)), (by first | rfl | exact f17 | (simp [upd_apply]; done) | (simp [upd_apply]; exact f17)), (by first | rfl | exact f18 | (simp [upd_apply]; done) | (simp [upd_apply]; exact f18)), (by first | rfl | exact f19 | (simp [upd_apply]; done) | (simp [upd_apply]; exact f19)), (by first | rfl | exact f20 | (simp [upd_apply]; done) | (simp [upd_apply]; exact f20)), (by first | rfl | exact f21 | (simp [upd_apply]; done) | (simp [upd_apply]; exact f21)), (by first | rfl | exact f22 | (simp [upd_apply]; done) | (simp [upd_apply]; exact f22)), (by first | rfl | (simp [upd_apply]; done)), (by first | rfl | (simp [upd_apply]; done)), (by first | rfl | (simp [upd_apply]; done)), trivial⟩ ?_
  rintro f ⟨f0, f17, f18, f19, f20, f21, f22, f23, f24, f175, -⟩
  ((try simp (maxSteps := 3000000) (dsimp := false) (disch := first | omega | (simp only [len_new, len_put, len_kill]; omega)) only [↓ypre, ypost, ↓reduceIte, Nat.reduceEqDiff, Nat.reduceAdd, Nat.reduceSub, Nat.reduceLeDiff, Nat.zero_add, Nat.sub_zero, ynew, f0, f17, f18, f19, f20, f21, f22, f23, f24, f175, tenV, oB.ints.one]); try simp only [yback])
  generalize hHC : AH.new HB _ = HC
  obtain ⟨gC, pC, nC⟩ := new_facts hHC
  have g2 := pre_get pC g2
  have g3 := pre_get pC g3
  have g6 := pre_get pC g6
  have g8 := pre_get pC g8
  have gA := pre_get pC gA
  ((try simp (maxSteps := 3000000) (dsimp := false) (disch := first | omega | (simp only [len_new, len_put, len_kill]; omega)) only [↓ypre, ypost, ↓reduceIte, Nat.reduceEqDiff, Nat.reduceAdd, Nat.reduceSub, Nat.reduceLeDiff, Nat.zero_add, Nat.sub_zero, ynew, f0, f17, f18, f19, f20, f21, f22, f23, f24, f175, decide_eq_false (show ¬ R.2 ≠ R.2 from fun h => h rfl), rdn_of g6, rdn_of g8]); try simp only [yback])
  refine l_tensors5 (t := R.1) (o5.ints.pre (((p6.trans p7).trans (p8.trans p9)).trans (pA.trans (pB'.trans pC)))) (o7.ints.pre ((p8.trans p9).trans (pA.trans (pB'.trans pC)))) hq fun HD pD => ?_
  have g2 := pre_get pD g2
  have g3 := pre_get pD g3
  have g6 := pre_get pD g6
  have gA := pre_get pD gA
  have gC := pre_get pD gC
  refine WO_cut (fun f : Fr => f 0 = cv ∧ f 17 = .pointer (some ⟨H1.length, 0, none⟩) ∧ f 18 = .pointer (some ⟨H1.length + 1, 0, none⟩) ∧ f 19 = .pointer (some ⟨H5.length, 0, none⟩) ∧ f 20 = I64 R.2 ∧ f 23 = .pointer (some ⟨H9.length, 0, none⟩) ∧ f 24 = I64 K.2 ∧ f 25 = .pointer (some ⟨HB.length, 0, none⟩) ∧ f 26 = I64 K.2 ∧ f 181 = .bool false ∧ f 184 = .bool true ∧ True) ⟨(by first | rfl | exact f0 | (simp [upd_apply]; done) | (simp [upd_apply]; exact f0)), (by first | rfl | exact f17 | (simp [upd_apply]; done) | (simp [upd_apply]; exact f17)), (by first | rfl | exact f18 | (simp [upd_apply]; done) | (simp [upd_apply]; exact f18)), (by first | rfl | exact f19 | (simp [upd_apply]; done) | (simp [upd_apply]; exact f19)), (by first | rfl | exact f20 | (simp [upd_apply]; done) | (simp [upd_apply]; exact f20)), (by first | rfl | exact f23 | (simp [upd_apply]; done) | (simp [upd_apply]; exact f23)), (by first | rfl | exact f24 | (simp [upd_apply]; done) | (simp [upd_apply]; exact f24)), (by first | rfl | (simp [upd_apply]; done)), (by first | rfl | (simp [upd_apply]; done)), (by first | rfl | (simp [upd_apply]; done)), (by first | rfl | (simp [upd_apply]; done)), trivial⟩ ?_
  rintro f ⟨f0, f17, f18, f19, f20, f23, f24, f25, f26, f181, f184, -⟩
  ((try simp (maxSteps := 3000000) (dsimp := false) (disch := first | omega | (simp only [len_new, len_put, len_kill]; omega)) only [↓ypre, ypost, ↓reduceIte, Nat.reduceEqDiff, Nat.reduceAdd, Nat.reduceSub, Nat.reduceLeDiff, Nat.zero_add, Nat.sub_zero, ynew, f0, f17, f18, f19, f20, f23, f24, f25, f26, f181, f184, decide_eq_false (show ¬ K.2 ≠ K.2 from fun h => h rfl), rdn_of gA, rdn_of gC]); try simp only [yback])
  refine l_tensors5 (t := K.1) (o9.ints.pre ((pA.trans (pB'.trans pC)).trans pD)) (oB.ints.pre (pC.trans pD)) hqk fun HE pE => ?_
  have g2 := pre_get pE g2
  have g3 := pre_get pE g3
  have g6 := pre_get pE g6
  have gA := pre_get pE gA
  have pH := pG.trans ((p9.trans pA).trans ((pB'.trans pC).trans (pD.trans pE)))
  refine WO_cut (fun f : Fr => f 0 = cv ∧ f 17 = .pointer (some ⟨H1.length, 0, none⟩) ∧ f 18 = .pointer (some ⟨H1.length + 1, 0, none⟩) ∧ f 19 = .pointer (some ⟨H5.length, 0, none⟩) ∧ f 20 = I64 R.2 ∧ f 23 = .pointer (some ⟨H9.length, 0, none⟩) ∧ f 24 = I64 K.2 ∧ f 192 = .bool false ∧ f 195 = .bool true ∧ True) ⟨(by first | rfl | exact f0 | (simp [upd_apply]; done) | (simp [upd_apply]; exact f0)), (by first | rfl | exact f17 | (simp [upd_apply]; done) | (simp [upd_apply]; exact f17)), (by first | rfl | exact f18 | (simp [upd_apply]; done) | (simp [upd_apply]; exact f18)), (by first | rfl | exact f19 | (simp [upd_apply]; done) | (simp [upd_apply]; exact f19)), (by first | rfl | exact f20 | (simp [upd_apply]; done) | (simp [upd_apply]; exact f20)), (by first | rfl | exact f23 | (simp [upd_apply]; done) | (simp [upd_apply]; exact f23)), (by first | rfl | exact f24 | (simp [upd_apply]; done) | (simp [upd_apply]; exact f24)), (by first | rfl | (simp [upd_apply]; done)), (by first | rfl | (simp [upd_apply]; done)), trivial⟩ ?_
  rintro f ⟨f0, f17, f18, f19, f20, f23, f24, f192, f195, -⟩
  obtain ⟨z, hz⟩ : ∃ z : Bool, z = true := ⟨true, rfl⟩
  have f195 : f 195 = .bool z := by rw [hz]; exact f195
  ((try simp (maxSteps := 3000000) (dsimp := false) (disch := first | omega | (simp only [len_new, len_put, len_kill]; omega)) only [↓ypre, ypost, ↓reduceIte, Nat.reduceEqDiff, Nat.reduceAdd, Nat.reduceSub, Nat.reduceLeDiff, Nat.zero_add, Nat.sub_zero, ynew, f0, f17, f18, f19, f20, f23, f24, f192, f195]); try simp only [yback])
  refine IfW_seq (by rw [hz]; rfl) (Kcv h cv) ?_ ?_
  · have p0 : h <+: HE := pX.trans (p1.trans pH)
    by_cases z1 : R.2 = 0
    case neg =>
      ((try simp (maxSteps := 3000000) (dsimp := false) (disch := first | omega | (simp only [len_new, len_put, len_kill]; omega)) only [↓ypre, ypost, ↓reduceIte, Nat.reduceEqDiff, Nat.reduceAdd, Nat.reduceSub, Nat.reduceLeDiff, Nat.zero_add, Nat.sub_zero, ynew, f0, f17, f18, f19, f20, f23, f24, f192, f195, decide_eq_false z1]); try simp only [yback])
      rw [JnQ_n]
      exact ⟨f0, p0⟩
    by_cases z2 : K.2 = 0
    case neg =>
      ((try simp (maxSteps := 3000000) (dsimp := false) (disch := first | omega | (simp only [len_new, len_put, len_kill]; omega)) only [↓ypre, ypost, ↓reduceIte, Nat.reduceEqDiff, Nat.reduceAdd, Nat.reduceSub, Nat.reduceLeDiff, Nat.zero_add, Nat.sub_zero, ynew, f0, f17, f18, f19, f20, f23, f24, f192, f195, decide_eq_true z1, decide_eq_false z2]); try simp only [yback])
      rw [JnQ_n]
      exact ⟨f0, p0⟩
    obtain ⟨h1, h2, h3, h4, h5⟩ := dsR_0 (show (dsR t u).2 = 0 by rw [hR]; exact z1)
    obtain ⟨-, -, h6, h7, h8⟩ := krR_0 (show (krR t u).2 = 0 by rw [hK]; exact z2)
    rw [hR] at h4
    rw [hK] at h7
    rw [← h4] at h5
    rw [← h7] at h8
    ((try simp (maxSteps := 3000000) (dsimp := false) (disch := first | omega | (simp only [len_new, len_put, len_kill]; omega)) only [↓ypre, ypost, ↓reduceIte, Nat.reduceEqDiff, Nat.reduceAdd, Nat.reduceSub, Nat.reduceLeDiff, Nat.zero_add, Nat.sub_zero, ynew, f0, f17, f18, f19, f20, f23, f24, f192, f195, decide_eq_true z1, decide_eq_true z2, rdn_of g2]); try simp only [yback])
    refine i_Ranks (t := t) (hv.pre pH) h1.1 fun a1 HF pF b1 => ?_
    have g3 := pre_get pF g3
    have g6 := pre_get pF g6
    have gA := pre_get pF gA
    refine WO_cut (fun f : Fr => f 0 = cv ∧ f 18 = .pointer (some ⟨H1.length + 1, 0, none⟩) ∧ f 19 = .pointer (some ⟨H5.length, 0, none⟩) ∧ f 23 = .pointer (some ⟨H9.length, 0, none⟩) ∧ f 206 = .tuple #[a1, I64 0] ∧ True) ⟨(by first | rfl | exact f0 | (simp [upd_apply]; done) | (simp [upd_apply]; exact f0)), (by first | rfl | exact f18 | (simp [upd_apply]; done) | (simp [upd_apply]; exact f18)), (by first | rfl | exact f19 | (simp [upd_apply]; done) | (simp [upd_apply]; exact f19)), (by first | rfl | exact f23 | (simp [upd_apply]; done) | (simp [upd_apply]; exact f23)), (by first | rfl | (simp [upd_apply]; done)), trivial⟩ ?_
    rintro f ⟨f0, f18, f19, f23, f206, -⟩
    ((try simp (maxSteps := 3000000) (dsimp := false) (disch := first | omega | (simp only [len_new, len_put, len_kill]; omega)) only [↓ypre, ypost, ↓reduceIte, Nat.reduceEqDiff, Nat.reduceAdd, Nat.reduceSub, Nat.reduceLeDiff, Nat.zero_add, Nat.sub_zero, ynew, f0, f18, f19, f23, f206, rdn_of g3]); try simp only [yback])
    refine i_Ranks (t := u) (hw.pre (pH.trans pF)) h1.2 fun a2 HG pG' b2 => ?_
    have g6 := pre_get pG' g6
    have gA := pre_get pG' gA
    refine WO_cut (fun f : Fr => f 0 = cv ∧ f 19 = .pointer (some ⟨H5.length, 0, none⟩) ∧ f 23 = .pointer (some ⟨H9.length, 0, none⟩) ∧ f 27 = a1 ∧ f 28 = I64 0 ∧ f 211 = .tuple #[a2, I64 0] ∧ True) ⟨(by first | rfl | exact f0 | (simp [upd_apply]; done) | (simp [upd_apply]; exact f0)), (by first | rfl | exact f19 | (simp [upd_apply]; done) | (simp [upd_apply]; exact f19)), (by first | rfl | exact f23 | (simp [upd_apply]; done) | (simp [upd_apply]; exact f23)), (by first | rfl | (simp [upd_apply]; done)), (by first | rfl | (simp [upd_apply]; done)), (by first | rfl | (simp [upd_apply]; done)), trivial⟩ ?_
    rintro f ⟨f0, f19, f23, f27, f28, f211, -⟩
    ((try simp (maxSteps := 3000000) (dsimp := false) (disch := first | omega | (simp only [len_new, len_put, len_kill]; omega)) only [↓ypre, ypost, ↓reduceIte, Nat.reduceEqDiff, Nat.reduceAdd, Nat.reduceSub, Nat.reduceLeDiff, Nat.zero_add, Nat.sub_zero, ynew, f0, f19, f23, f27, f28, f211, rdn_of g6]); try simp only [yback])
    refine i_Ranks (t := R.1) (o5.ints.pre ((((p6.trans p7).trans (p8.trans p9)).trans (pA.trans (pB'.trans pC))).trans ((pD.trans pE).trans (pF.trans pG')))) h5 fun a3 HH pH' b3 => ?_
    have gA := pre_get pH' gA
    refine WO_cut (fun f : Fr => f 0 = cv ∧ f 23 = .pointer (some ⟨H9.length, 0, none⟩) ∧ f 27 = a1 ∧ f 28 = I64 0 ∧ f 29 = a2 ∧ f 30 = I64 0 ∧ f 216 = .tuple #[a3, I64 0] ∧ True) ⟨(by first | rfl | exact f0 | (simp [upd_apply]; done) | (simp [upd_apply]; exact f0)), (by first | rfl | exact f23 | (simp [upd_apply]; done) | (simp [upd_apply]; exact f23)), (by first | rfl | exact f27 | (simp [upd_apply]; done) | (simp [upd_apply]; exact f27)), (by first | rfl | exact f28 | (simp [upd_apply]; done) | (simp [upd_apply]; exact f28)), (by first | rfl | (simp [upd_apply]; done)), (by first | rfl | (simp [upd_apply]; done)), (by first | rfl | (simp [upd_apply]; done)), trivial⟩ ?_
    rintro f ⟨f0, f23, f27, f28, f29, f30, f216, -⟩
    ((try simp (maxSteps := 3000000) (dsimp := false) (disch := first | omega | (simp only [len_new, len_put, len_kill]; omega)) only [↓ypre, ypost, ↓reduceIte, Nat.reduceEqDiff, Nat.reduceAdd, Nat.reduceSub, Nat.reduceLeDiff, Nat.zero_add, Nat.sub_zero, ynew, f0, f23, f27, f28, f29, f30, f216, rdn_of gA]); try simp only [yback])
    refine i_Ranks (t := K.1) (o9.ints.pre (((pA.trans (pB'.trans pC)).trans (pD.trans pE)).trans (pF.trans (pG'.trans pH')))) h8 fun a4 HI pI b4 => ?_
    have b1 := b1.pre (pG'.trans (pH'.trans pI))
    have b2 := b2.pre (pH'.trans pI)
    have b3 := b3.pre pI
    refine WO_cut (fun f : Fr => f 0 = cv ∧ f 27 = a1 ∧ f 28 = I64 0 ∧ f 29 = a2 ∧ f 30 = I64 0 ∧ f 31 = a3 ∧ f 32 = I64 0 ∧ f 221 = .tuple #[a4, I64 0] ∧ True) ⟨(by first | rfl | exact f0 | (simp [upd_apply]; done) | (simp [upd_apply]; exact f0)), (by first | rfl | exact f27 | (simp [upd_apply]; done) | (simp [upd_apply]; exact f27)), (by first | rfl | exact f28 | (simp [upd_apply]; done) | (simp [upd_apply]; exact f28)), (by first | rfl | exact f29 | (simp [upd_apply]; done) | (simp [upd_apply]; exact f29)), (by first | rfl | exact f30 | (simp [upd_apply]; done) | (simp [upd_apply]; exact f30)), (by first | rfl | (simp [upd_apply]; done)), (by first | rfl | (simp [upd_apply]; done)), (by first | rfl | (simp [upd_apply]; done)), trivial⟩ ?_
    rintro f ⟨f0, f27, f28, f29, f30, f31, f32, f221, -⟩
    have c1 := b1.len
    have c2 := b2.len
    have c3 := b3.len
    have c4 := b4.len
    rw [gen_len] at c1 c2 c3 c4
    have d0 : decide ((0 : Int) ≠ 0) = false := by decide
    have d3 : decide (((3 : Nat) : Int) ≠ 3) = false := by decide
    have pZ : h <+: HI := p0.trans (pF.trans (pG'.trans (pH'.trans pI)))
    ((try simp (maxSteps := 3000000) (dsimp := false) (disch := first | omega | (simp only [len_new, len_put, len_kill]; omega)) only [↓ypre, ypost, ↓reduceIte, Nat.reduceEqDiff, Nat.reduceAdd, Nat.reduceSub, Nat.reduceLeDiff, Nat.zero_add, Nat.sub_zero, ynew, f0, f27, f28, f29, f30, f31, f32, f221, c1, c2, c3, c4, d0, d3]); try simp only [yback])
    refine WC_loop_inv (fun m f K2 => ∃ (i : Nat), m = 3 - i ∧ i ≤ 3 ∧ f 0 = cv ∧ f 27 = a1 ∧ f 29 = a2 ∧ f 31 = a3 ∧ f 33 = a4 ∧ f 35 = I64 i ∧ (K2 = HI)) ?_ (3 - 0) _ _ ⟨0, rfl, by omega, (by first | rfl | exact f0 | (simp [upd_apply]; done)), (by first | rfl | exact f27 | (simp [upd_apply]; done)), (by first | rfl | exact f29 | (simp [upd_apply]; done)), (by first | rfl | exact f31 | (simp [upd_apply]; done)), (by first | rfl | (simp [upd_apply]; done)), (by first | rfl | (simp [upd_apply]; done)), rfl⟩
    rintro m f K2 ⟨i, rfl, hi, f0, f27, f29, f31, f33, f35, hK0⟩
    subst hK0
    by_cases hlt : (i : Int) < 3
    · obtain ⟨m1, of1, hix1, hrd1⟩ := b1.cell (j := i) (by rw [gen_len]; omega)
      obtain ⟨m2, of2, hix2, hrd2⟩ := b2.cell (j := i) (by rw [gen_len]; omega)
      obtain ⟨m3, of3, hix3, hrd3⟩ := b3.cell (j := i) (by rw [gen_len]; omega)
      obtain ⟨m4, of4, hix4, hrd4⟩ := b4.cell (j := i) (by rw [gen_len]; omega)
      rw [gen_get (by omega)] at hrd1 hrd2 hrd3 hrd4
      have e1 := flG_in (isT_facts h1.1) i
      have e2 := flG_in (isT_facts h1.2) i
      have e3 := fl_ds (isT_facts h1.1) (isT_facts h1.2) (isT_isP h1.1) h2 h3 (s := i) (by omega)
      have e4 := fl_kr (isT_facts h1.1) (isT_facts h1.2) (isT_isP h1.1) h2 h6 (s := i) (by omega)
      have e5 := mul_in e1 e2
      rw [← h4] at e3
      rw [← h7] at e4
      have d1 := decide_eq_false (show ¬ flG R.1 i ≠ flG t i + flG u i from fun h => h e3)
      have d2 := decide_eq_false (show ¬ flG K.1 i ≠ flG t i * flG u i from fun h => h e4)
      ((try simp (maxSteps := 3000000) (dsimp := false) (disch := first | omega | (simp only [len_new, len_put, len_kill]; omega)) only [↓ypre, ypost, ↓reduceIte, Nat.reduceEqDiff, Nat.reduceAdd, Nat.reduceSub, Nat.reduceLeDiff, Nat.zero_add, Nat.sub_zero, ynew, f0, f27, f29, f31, f33, f35, decide_eq_true hlt, hix1, hrd1, hix2, hrd2, hix3, hrd3, hix4, hrd4, wrap64_in, d1, d2]); try simp only [yback])
      refine InvQ_go (3 - (i + 1)) (by omega) ⟨(i + 1), rfl, by omega, (by first | rfl | exact f0 | (simp only [upd_apply]; rfl) | (show I64 _ = _; congr 1; omega)), (by first | rfl | exact f27 | (simp only [upd_apply]; rfl) | (show I64 _ = _; congr 1; omega)), (by first | rfl | exact f29 | (simp only [upd_apply]; rfl) | (show I64 _ = _; congr 1; omega)), (by first | rfl | exact f31 | (simp only [upd_apply]; rfl) | (show I64 _ = _; congr 1; omega)), (by first | rfl | exact f33 | (simp only [upd_apply]; rfl) | (show I64 _ = _; congr 1; omega)), (by first | rfl | exact f35 | (simp only [upd_apply]; rfl) | (show I64 _ = _; congr 1; omega)), rfl⟩
    · ((try simp (maxSteps := 3000000) (dsimp := false) (disch := first | omega | (simp only [len_new, len_put, len_kill]; omega)) only [↓ypre, ypost, ↓reduceIte, Nat.reduceEqDiff, Nat.reduceAdd, Nat.reduceSub, Nat.reduceLeDiff, Nat.zero_add, Nat.sub_zero, ynew, f0, f27, f29, f31, f33, f35, decide_eq_false hlt]); try simp only [yback])
      rw [JnQ_n]
      exact ⟨f0, pZ⟩
  rintro f HX ⟨f0, pX⟩
  ((try simp (maxSteps := 3000000) (dsimp := false) (disch := first | omega | (simp only [len_new, len_put, len_kill]; omega)) only [↓ypre, ypost, ↓reduceIte, Nat.reduceEqDiff, Nat.reduceAdd, Nat.reduceSub, Nat.reduceLeDiff, Nat.zero_add, Nat.sub_zero, ynew, f0]); try simp only [yback])
  refine s_DrawTurnTensor (c.pre pX) fun t v H1 p1 hv tb => ?_
  refine WO_cut (fun f : Fr => f 0 = cv ∧ f 293 = tenV t v ∧ True) ⟨(by first | rfl | exact f0 | (simp [upd_apply]; done) | (simp [upd_apply]; exact f0)), (by first | rfl | (simp [upd_apply]; done)), trivial⟩ ?_
  rintro f ⟨f0, f293, -⟩
  ((try simp (maxSteps := 3000000) (dsimp := false) (disch := first | omega | (simp only [len_new, len_put, len_kill]; omega)) only [↓ypre, ypost, ↓reduceIte, Nat.reduceEqDiff, Nat.reduceAdd, Nat.reduceSub, Nat.reduceLeDiff, Nat.zero_add, Nat.sub_zero, ynew, f0, f293, tenV, hv.one]); try simp only [yback])
  generalize hH2 : AH.new H1 _ = H2
  obtain ⟨g2, p2, n2⟩ := new_facts hH2
  ((try simp (maxSteps := 3000000) (dsimp := false) (disch := first | omega | (simp only [len_new, len_put, len_kill]; omega)) only [↓ypre, ypost, ↓reduceIte, Nat.reduceEqDiff, Nat.reduceAdd, Nat.reduceSub, Nat.reduceLeDiff, Nat.zero_add, Nat.sub_zero, ynew, f0, f293, rdn_of g2]); try simp only [yback])
  refine i_TurnTensor (t := t) (hv.pre p2) tb.l fun v1 H3 p3 o3 => ?_
  have hq : (((turnR t).1.ns.length : Nat) : Int) ≤ 1048576 := turnR_len t
  generalize hR : turnR t = R at o3 hq
  have g2 := pre_get p3 g2
  refine WO_cut (fun f : Fr => f 0 = cv ∧ f 36 = .pointer (some ⟨H1.length, 0, none⟩) ∧ f 296 = .tuple #[tenV R.1 v1, I64 R.2] ∧ True) ⟨(by first | rfl | exact f0 | (simp [upd_apply]; done) | (simp [upd_apply]; exact f0)), (by first | rfl | (simp [upd_apply]; done)), (by first | rfl | (simp [upd_apply]; done)), trivial⟩ ?_
  rintro f ⟨f0, f36, f296, -⟩
  ((try simp (maxSteps := 3000000) (dsimp := false) (disch := first | omega | (simp only [len_new, len_put, len_kill]; omega)) only [↓ypre, ypost, ↓reduceIte, Nat.reduceEqDiff, Nat.reduceAdd, Nat.reduceSub, Nat.reduceLeDiff, Nat.zero_add, Nat.sub_zero, ynew, f0, f36, f296, tenV, o3.ints.one]); try simp only [yback])
  generalize hH4 : AH.new H3 _ = H4
  obtain ⟨g4, p4, n4⟩ := new_facts hH4
  have g2 := pre_get p4 g2
  ((try simp (maxSteps := 3000000) (dsimp := false) (disch := first | omega | (simp only [len_new, len_put, len_kill]; omega)) only [↓ypre, ypost, ↓reduceIte, Nat.reduceEqDiff, Nat.reduceAdd, Nat.reduceSub, Nat.reduceLeDiff, Nat.zero_add, Nat.sub_zero, ynew, f0, f36, f296, rdn_of g2]); try simp only [yback])
  refine s_TurnTensor (t := t) (hv.pre (p2.trans (p3.trans p4))) tb.l fun v2 H5 p5 o5 => ?_
  rw [hR] at o5
  simp only [hR]
  have g2 := pre_get p5 g2
  have g4 := pre_get p5 g4
  refine WO_cut (fun f : Fr => f 0 = cv ∧ f 36 = .pointer (some ⟨H1.length, 0, none⟩) ∧ f 37 = .pointer (some ⟨H3.length, 0, none⟩) ∧ f 38 = I64 R.2 ∧ f 301 = .tuple #[tenV R.1 v2, I64 R.2] ∧ True) ⟨(by first | rfl | exact f0 | (simp [upd_apply]; done) | (simp [upd_apply]; exact f0)), (by first | rfl | exact f36 | (simp [upd_apply]; done) | (simp [upd_apply]; exact f36)), (by first | rfl | (simp [upd_apply]; done)), (by first | rfl | (simp [upd_apply]; done)), (by first | rfl | (simp [upd_apply]; done)), trivial⟩ ?_
  rintro f ⟨f0, f36, f37, f38, f301, -⟩
  ((try simp (maxSteps := 3000000) (dsimp := false) (disch := first | omega | (simp only [len_new, len_put, len_kill]; omega)) only [↓ypre, ypost, ↓reduceIte, Nat.reduceEqDiff, Nat.reduceAdd, Nat.reduceSub, Nat.reduceLeDiff, Nat.zero_add, Nat.sub_zero, ynew, f0, f36, f37, f38, f301, tenV, o5.ints.one]); try simp only [yback])
  generalize hH6 : AH.new H5 _ = H6
  obtain ⟨g6, p6, n6⟩ := new_facts hH6
  have g2 := pre_get p6 g2
  have g4 := pre_get p6 g4
  ((try simp (maxSteps := 3000000) (dsimp := false) (disch := first | omega | (simp only [len_new, len_put, len_kill]; omega)) only [↓ypre, ypost, ↓reduceIte, Nat.reduceEqDiff, Nat.reduceAdd, Nat.reduceSub, Nat.reduceLeDiff, Nat.zero_add, Nat.sub_zero, ynew, f0, f36, f37, f38, f301, decide_eq_false (show ¬ R.2 ≠ R.2 from fun h => h rfl), rdn_of g4, rdn_of g6]); try simp only [yback])
  refine l_tensors5 (t := R.1) (o3.ints.pre ((p4.trans p5).trans p6)) (o5.ints.pre p6) hq fun H7 p7 => ?_
  have g2 := pre_get p7 g2
  have g4 := pre_get p7 g4
  refine WO_cut (fun f : Fr => f 0 = cv ∧ f 36 = .pointer (some ⟨H1.length, 0, none⟩) ∧ f 37 = .pointer (some ⟨H3.length, 0, none⟩) ∧ f 38 = I64 R.2 ∧ f 307 = .bool false ∧ f 310 = .bool true ∧ True) ⟨(by first | rfl | exact f0 | (simp [upd_apply]; done) | (simp [upd_apply]; exact f0)), (by first | rfl | exact f36 | (simp [upd_apply]; done) | (simp [upd_apply]; exact f36)), (by first | rfl | exact f37 | (simp [upd_apply]; done) | (simp [upd_apply]; exact f37)), (by first | rfl | exact f38 | (simp [upd_apply]; done) | (simp [upd_apply]; exact f38)), (by first | rfl | (simp [upd_apply]; done)), (by first | rfl | (simp [upd_apply]; done)), trivial⟩ ?_
  rintro f ⟨f0, f36, f37, f38, f307, f310, -⟩
  obtain ⟨z, hz⟩ : ∃ z : Bool, z = true := ⟨true, rfl⟩
  have f310 : f 310 = .bool z := by rw [hz]; exact f310
  ((try simp (maxSteps := 3000000) (dsimp := false) (disch := first | omega | (simp only [len_new, len_put, len_kill]; omega)) only [↓ypre, ypost, ↓reduceIte, Nat.reduceEqDiff, Nat.reduceAdd, Nat.reduceSub, Nat.reduceLeDiff, Nat.zero_add, Nat.sub_zero, ynew, f0, f36, f37, f38, f307, f310]); try simp only [yback])
  have p0 : h <+: H7 := pX.trans ((p1.trans p2).trans ((p3.trans p4).trans ((p5.trans p6).trans p7)))
  refine IfW_seq (by rw [hz]; rfl) (Kcv h cv) ?_ ?_
  · by_cases z1 : R.2 = 0
    case neg =>
      ((try simp (maxSteps := 3000000) (dsimp := false) (disch := first | omega | (simp only [len_new, len_put, len_kill]; omega)) only [↓ypre, ypost, ↓reduceIte, Nat.reduceEqDiff, Nat.reduceAdd, Nat.reduceSub, Nat.reduceLeDiff, Nat.zero_add, Nat.sub_zero, ynew, f0, f36, f37, f38, f307, f310, decide_eq_false z1]); try simp only [yback])
      rw [JnQ_n]
      exact ⟨f0, p0⟩
    obtain ⟨h1, h2, h3⟩ := turnR_0 (show (turnR t).2 = 0 by rw [hR]; exact z1)
    rw [hR] at h2
    rw [← h2] at h3
    have e1 : turnR R.1 = (turnT R.1, 0) := if_pos h3
    have h4 := turnR_0 (show (turnR R.1).2 = 0 by rw [e1])
    have e2 : turnR (turnT R.1) = (turnT (turnT R.1), 0) := if_pos h4.2.2
    have e3 : turnT (turnT R.1) = t := by rw [h2]; exact turn3 (isT_facts h1)
    have l1 := turnR_len R.1
    rw [e1] at l1
    ((try simp (maxSteps := 3000000) (dsimp := false) (disch := first | omega | (simp only [len_new, len_put, len_kill]; omega)) only [↓ypre, ypost, ↓reduceIte, Nat.reduceEqDiff, Nat.reduceAdd, Nat.reduceSub, Nat.reduceLeDiff, Nat.zero_add, Nat.sub_zero, ynew, f0, f36, f37, f38, f307, f310, decide_eq_true z1, rdn_of g4]); try simp only [yback])
    refine i_TurnTensor (t := R.1) (o3.ints.pre ((p4.trans p5).trans (p6.trans p7))) hq fun v3 H8 p8 o8 => ?_
    rw [e1] at o8 ⊢
    have g2 := pre_get p8 g2
    refine WO_cut (fun f : Fr => f 0 = cv ∧ f 36 = .pointer (some ⟨H1.length, 0, none⟩) ∧ f 317 = .tuple #[tenV (turnT R.1) v3, I64 0] ∧ True) ⟨(by first | rfl | exact f0 | (simp [upd_apply]; done) | (simp [upd_apply]; exact f0)), (by first | rfl | exact f36 | (simp [upd_apply]; done) | (simp [upd_apply]; exact f36)), (by first | rfl | (simp [upd_apply]; done)), trivial⟩ ?_
    rintro f ⟨f0, f36, f317, -⟩
    ((try simp (maxSteps := 3000000) (dsimp := false) (disch := first | omega | (simp only [len_new, len_put, len_kill]; omega)) only [↓ypre, ypost, ↓reduceIte, Nat.reduceEqDiff, Nat.reduceAdd, Nat.reduceSub, Nat.reduceLeDiff, Nat.zero_add, Nat.sub_zero, ynew, f0, f36, f317, tenV, o8.ints.one]); try simp only [yback])
    generalize hH9 : AH.new H8 _ = H9
    obtain ⟨g9, p9, n9⟩ := new_facts hH9
    have g2 := pre_get p9 g2
    ((try simp (maxSteps := 3000000) (dsimp := false) (disch := first | omega | (simp only [len_new, len_put, len_kill]; omega)) only [↓ypre, ypost, ↓reduceIte, Nat.reduceEqDiff, Nat.reduceAdd, Nat.reduceSub, Nat.reduceLeDiff, Nat.zero_add, Nat.sub_zero, ynew, f0, f36, f317, rdn_of g9]); try simp only [yback])
    refine i_TurnTensor (t := turnT R.1) (o8.ints.pre p9) l1 fun v4 HA pA oA => ?_
    rw [e2] at oA ⊢
    dsimp only at oA ⊢
    rw [e3] at oA ⊢
    have g2 := pre_get pA g2
    refine WO_cut (fun f : Fr => f 0 = cv ∧ f 36 = .pointer (some ⟨H1.length, 0, none⟩) ∧ f 42 = I64 0 ∧ f 322 = .tuple #[tenV t v4, I64 0] ∧ True) ⟨(by first | rfl | exact f0 | (simp [upd_apply]; done) | (simp [upd_apply]; exact f0)), (by first | rfl | exact f36 | (simp [upd_apply]; done) | (simp [upd_apply]; exact f36)), (by first | rfl | (simp [upd_apply]; done)), (by first | rfl | (simp [upd_apply]; done)), trivial⟩ ?_
    rintro f ⟨f0, f36, f42, f322, -⟩
    ((try simp (maxSteps := 3000000) (dsimp := false) (disch := first | omega | (simp only [len_new, len_put, len_kill]; omega)) only [↓ypre, ypost, ↓reduceIte, Nat.reduceEqDiff, Nat.reduceAdd, Nat.reduceSub, Nat.reduceLeDiff, Nat.zero_add, Nat.sub_zero, ynew, f0, f36, f42, f322, tenV, oA.ints.one]); try simp only [yback])
    generalize hHB : AH.new HA _ = HB
    obtain ⟨gB, pB, nB⟩ := new_facts hHB
    have g2 := pre_get pB g2
    have d0 : decide ((0 : Int) ≠ 0) = false := by decide
    ((try simp (maxSteps := 3000000) (dsimp := false) (disch := first | omega | (simp only [len_new, len_put, len_kill]; omega)) only [↓ypre, ypost, ↓reduceIte, Nat.reduceEqDiff, Nat.reduceAdd, Nat.reduceSub, Nat.reduceLeDiff, Nat.zero_add, Nat.sub_zero, ynew, f0, f36, f42, f322, d0, rdn_of gB, rdn_of g2]); try simp only [yback])
    refine l_tensors5 (t := t) (oA.ints.pre pB) (hv.pre ((p2.trans (p3.trans p4)).trans (((p5.trans p6).trans (p7.trans p8)).trans (p9.trans (pA.trans pB))))) tb.l fun HC pC => ?_
    refine WO_cut (fun f : Fr => f 0 = cv ∧ f 331 = .bool false ∧ f 334 = .bool true ∧ True) ⟨(by first | rfl | exact f0 | (simp [upd_apply]; done) | (simp [upd_apply]; exact f0)), (by first | rfl | (simp [upd_apply]; done)), (by first | rfl | (simp [upd_apply]; done)), trivial⟩ ?_
    rintro f ⟨f0, f331, f334, -⟩
    ((try simp (maxSteps := 3000000) (dsimp := false) (disch := first | omega | (simp only [len_new, len_put, len_kill]; omega)) only [↓ypre, ypost, ↓reduceIte, Nat.reduceEqDiff, Nat.reduceAdd, Nat.reduceSub, Nat.reduceLeDiff, Nat.zero_add, Nat.sub_zero, ynew, f0, f331, f334]); try simp only [yback])
    rw [JnQ_n]
    exact ⟨f0, p0.trans (p8.trans (p9.trans (pA.trans (pB.trans pC))))⟩
  rintro f HX ⟨f0, pX⟩
  ((try simp (maxSteps := 3000000) (dsimp := false) (disch := first | omega | (simp only [len_new, len_put, len_kill]; omega)) only [↓ypre, ypost, ↓reduceIte, Nat.reduceEqDiff, Nat.reduceAdd, Nat.reduceSub, Nat.reduceLeDiff, Nat.zero_add, Nat.sub_zero, ynew, f0]); try simp only [yback])
  refine s_DrawKroneckerTensors (c.pre pX) fun t u v w H1 p1 hv hw tb ub => ?_
  refine WO_cut (fun f : Fr => f 0 = cv ∧ f 339 = .tuple #[tenV t v, tenV u w] ∧ True) ⟨(by first | rfl | exact f0 | (simp [upd_apply]; done) | (simp [upd_apply]; exact f0)), (by first | rfl | (simp [upd_apply]; done)), trivial⟩ ?_
  rintro f ⟨f0, f339, -⟩
  ((try simp (maxSteps := 3000000) (dsimp := false) (disch := first | omega | (simp only [len_new, len_put, len_kill]; omega)) only [↓ypre, ypost, ↓reduceIte, Nat.reduceEqDiff, Nat.reduceAdd, Nat.reduceSub, Nat.reduceLeDiff, Nat.zero_add, Nat.sub_zero, ynew, f0, f339, tenV, hv.one, hw.one]); try simp only [yback])
  simp only [len_new]
  generalize hH2 : AH.new H1 _ = H2
  obtain ⟨hb2, p2, n2⟩ := new_facts hH2
  generalize hH3 : AH.new H2 _ = H3
  obtain ⟨hb3, p3, n3⟩ := new_facts hH3
  rw [n2] at hb3
  have hb2 := pre_get p3 hb2
  ((try simp (maxSteps := 3000000) (dsimp := false) (disch := first | omega | (simp only [len_new, len_put, len_kill]; omega)) only [↓ypre, ypost, ↓reduceIte, Nat.reduceEqDiff, Nat.reduceAdd, Nat.reduceSub, Nat.reduceLeDiff, Nat.zero_add, Nat.sub_zero, ynew, f0, f339, wr_of hb3, splice_eq, rdn_of hb2]); try simp only [yback])
  generalize hH4 : AH.put H3 _ _ = H4
  obtain ⟨q4, l4, o4, u4⟩ := put_facts hH4
  have g3 := o4 (get_lt hb3)
  have g2 := q4 H1.length _ (by omega) hb2
  have pB : H1 <+: H4 := hH4 ▸ pre_put (p2.trans p3) (by omega)
  ((try simp (maxSteps := 3000000) (dsimp := false) (disch := first | omega | (simp only [len_new, len_put, len_kill]; omega)) only [↓ypre, ypost, ↓reduceIte, Nat.reduceEqDiff, Nat.reduceAdd, Nat.reduceSub, Nat.reduceLeDiff, Nat.zero_add, Nat.sub_zero, ynew, f0, f339, rdn_of g2, rdn_of g3]); try simp only [yback])
  have hqk : (((krR t u).1.ns.length : Nat) : Int) ≤ 1048576 := krR_len t u
  refine i_KroneckerTensors (t := t) (u := u) (hv.pre pB) tb.l (hw.pre pB) ub.l fun v1 H5 p5 o5 => ?_
  generalize hK : krR t u = K at o5 hqk
  have g2 := pre_get p5 g2
  have g3 := pre_get p5 g3
  refine WO_cut (fun f : Fr => f 0 = cv ∧ f 45 = .pointer (some ⟨H1.length, 0, none⟩) ∧ f 46 = .pointer (some ⟨H1.length + 1, 0, none⟩) ∧ f 345 = .tuple #[tenV K.1 v1, I64 K.2] ∧ True) ⟨(by first | rfl | exact f0 | (simp [upd_apply]; done) | (simp [upd_apply]; exact f0)), (by first | rfl | (simp [upd_apply]; done)), (by first | rfl | (simp [upd_apply]; done)), (by first | rfl | (simp [upd_apply]; done)), trivial⟩ ?_
  rintro f ⟨f0, f45, f46, f345, -⟩
  ((try simp (maxSteps := 3000000) (dsimp := false) (disch := first | omega | (simp only [len_new, len_put, len_kill]; omega)) only [↓ypre, ypost, ↓reduceIte, Nat.reduceEqDiff, Nat.reduceAdd, Nat.reduceSub, Nat.reduceLeDiff, Nat.zero_add, Nat.sub_zero, ynew, f0, f45, f46, f345, tenV, o5.ints.one]); try simp only [yback])
  generalize hH6 : AH.new H5 _ = H6
  obtain ⟨g6, p6, n6⟩ := new_facts hH6
  have g2 := pre_get p6 g2
  have g3 := pre_get p6 g3
  ((try simp (maxSteps := 3000000) (dsimp := false) (disch := first | omega | (simp only [len_new, len_put, len_kill]; omega)) only [↓ypre, ypost, ↓reduceIte, Nat.reduceEqDiff, Nat.reduceAdd, Nat.reduceSub, Nat.reduceLeDiff, Nat.zero_add, Nat.sub_zero, ynew, f0, f45, f46, f345, rdn_of g2, rdn_of g3]); try simp only [yback])
  refine s_KroneckerTensors (t := t) (u := u) (hv.pre (pB.trans (p5.trans p6))) tb.l (hw.pre (pB.trans (p5.trans p6))) ub.l fun v2 H7 p7 o7 => ?_
  rw [hK] at o7
  simp only [hK]
  have g6 := pre_get p7 g6
  refine WO_cut (fun f : Fr => f 0 = cv ∧ f 47 = .pointer (some ⟨H5.length, 0, none⟩) ∧ f 48 = I64 K.2 ∧ f 351 = .tuple #[tenV K.1 v2, I64 K.2] ∧ True) ⟨(by first | rfl | exact f0 | (simp [upd_apply]; done) | (simp [upd_apply]; exact f0)), (by first | rfl | (simp [upd_apply]; done)), (by first | rfl | (simp [upd_apply]; done)), (by first | rfl | (simp [upd_apply]; done)), trivial⟩ ?_
  rintro f ⟨f0, f47, f48, f351, -⟩
  ((try simp (maxSteps := 3000000) (dsimp := false) (disch := first | omega | (simp only [len_new, len_put, len_kill]; omega)) only [↓ypre, ypost, ↓reduceIte, Nat.reduceEqDiff, Nat.reduceAdd, Nat.reduceSub, Nat.reduceLeDiff, Nat.zero_add, Nat.sub_zero, ynew, f0, f47, f48, f351, tenV, o7.ints.one]); try simp only [yback])
  generalize hH8 : AH.new H7 _ = H8
  obtain ⟨g8, p8, n8⟩ := new_facts hH8
  have g6 := pre_get p8 g6
  ((try simp (maxSteps := 3000000) (dsimp := false) (disch := first | omega | (simp only [len_new, len_put, len_kill]; omega)) only [↓ypre, ypost, ↓reduceIte, Nat.reduceEqDiff, Nat.reduceAdd, Nat.reduceSub, Nat.reduceLeDiff, Nat.zero_add, Nat.sub_zero, ynew, f0, f47, f48, f351, decide_eq_true (show K.2 = K.2 from rfl), rdn_of g6, rdn_of g8]); try simp only [yback])
  refine l_tensors5 (t := K.1) (o5.ints.pre ((p6.trans p7).trans p8)) (o7.ints.pre p8) hqk fun H9 p9 => ?_
  refine WO_cut (fun f : Fr => f 357 = .bool true ∧ f 360 = .bool true ∧ True) ⟨(by first | rfl | (simp [upd_apply]; done)), (by first | rfl | (simp [upd_apply]; done)), trivial⟩ ?_
  rintro f ⟨f357, f360, -⟩
  ((try simp (maxSteps := 3000000) (dsimp := false) (disch := first | omega | (simp only [len_new, len_put, len_kill]; omega)) only [↓ypre, ypost, ↓reduceIte, Nat.reduceEqDiff, Nat.reduceAdd, Nat.reduceSub, Nat.reduceLeDiff, Nat.zero_add, Nat.sub_zero, ynew, f357, f360]); try simp only [yback])
end Go.Proofs.Ytapafdpnmakekaa.X

/- From the readings of a row's arguments to the abstract machine's first heap, and back to the row. -/
set_option linter.unusedVariables false
set_option linter.unusedSimpArgs false
namespace Go.Proofs.Ytapafdpnmakekaa.X
open Go Go.RowKit Go.ChangeShapes Go.WideShapes Go.Deep

/-- A heap of blocks that are read only, each in the world's memory. -/
structure Adm (P : Program) (W : World) (γ : List G) (h : AH) : Prop where
  rel : Rel P W.heap.size γ h W
  ro : ∀ n b, h.get n = some b → b.ro = true

theorem Adm.nil (P : Program) (W : World) : Adm P W [] [] where
  rel := {
    len := rfl
    cell := fun n b g h => by simp [AH.get] at h
    rw := fun n b g h => by simp [AH.get] at h
    ro := fun n b g h => by simp [AH.get] at h
    inj := fun n m bn bm g g' h => by simp [AH.get] at h
    base := Nat.le_refl _ }
  ro := fun n b h => by simp [AH.get] at h

theorem Adm.new {P : Program} {W : World} {γ : List G} {h : AH} (A : Adm P W γ h) {g : G} {cs : List Value} {e : TypeId} (hb : g.b < W.heap.size)
    (hc : ∀ j v, cs[j]? = some v → isOne v = true ∧ ∃ v', W.cell? ⟨g.b, g.o + j, none⟩ = some v' ∧ VR γ v v') : Adm P W (γ ++ [g]) (h.new ⟨cs, e, true, false⟩) := by
  have hl := A.rel.len
  have hp : γ <+: γ ++ [g] := List.prefix_append _ _
  have old : ∀ {n : Nat} {g' : G}, n < h.length → (γ ++ [g])[n]? = some g' → γ[n]? = some g' := fun hn hg => by
    rw [List.getElem?_append_left (by omega)] at hg
    exact hg
  have new : ∀ {g' : G}, (γ ++ [g])[h.length]? = some g' → g' = g := fun hg => by
    rw [← hl] at hg
    simpa using hg.symm
  refine ⟨⟨by simp [len_new, hl], ?_, ?_, ?_, ?_, Nat.le_refl _⟩, ?_⟩
  · intro n b g' hb' hg' j v hv
    rcases get_new_cases hb' with hb' | ⟨rfl, rfl⟩
    · obtain ⟨q1, v', q2, q3⟩ := A.rel.cell n b g' hb' (old (get_lt hb') hg') j v hv
      exact ⟨q1, v', q2, q3.mono hp⟩
    · obtain rfl := new hg'
      obtain ⟨q1, v', q2, q3⟩ := hc j v hv
      exact ⟨q1, v', q2, q3.mono hp⟩
  · intro n b g' hb' hg' hro
    rcases get_new_cases hb' with hb' | ⟨rfl, rfl⟩
    · rw [A.ro n b hb'] at hro
      cases hro
    · cases hro
  · intro n b g' hb' hg' hro
    rcases get_new_cases hb' with hb' | ⟨rfl, rfl⟩
    · exact A.rel.ro n b g' hb' (old (get_lt hb') hg') hro
    · obtain rfl := new hg'
      exact hb
  · intro n m bn bm g1 g2 h1 h2 h3 h4 hro
    rcases get_new_cases h1 with hb' | ⟨rfl, rfl⟩
    · rw [A.ro n bn hb'] at hro
      cases hro
    · cases hro
  · intro n b hb'
    rcases get_new_cases hb' with hb' | ⟨rfl, rfl⟩
    · exact A.ro n b hb'
    · rfl

section
variable {H : Type} {enc : TypeId × Value → H} {P : Program} {W : World}

theorem add_off (a : Addr) (ha : a.spot = none) (i : Nat) : a.add i = ⟨a.block, a.off + i, none⟩ := by
  unfold Addr.add
  split
  · rename_i h0
    subst h0
    obtain ⟨b, o, s⟩ := a
    simp at ha
    subst ha
    rfl
  · rfl

theorem adm_ints {γ : List G} {h : AH} (A : Adm P W γ h) {t e : TypeId} {n : Nat} {cs : List Value} {x : DataW H × List MemPlace} (ht : P.underlying t = some (.slice e)) (he : P.underlying e = some (.int .i64))
    (hc : P.cellsOf e = 1) (hx : DataW.trod enc P W 0 (fun _ => true) true n t cs = some x) :
    ∃ v' v ns γ' h', cs = [v'] ∧ γ <+: γ' ∧ h <+: h' ∧ Adm P W γ' h' ∧ VR γ' v v' ∧ Ints h' v ns ∧ ns.length ≤ maxLen := by
  rcases open_slice1 ht hc hx with ⟨rfl, _⟩ | ⟨a, len, cap, m, n', V, D, Pl, rfl, hb, hl, hm, hmm, _, hcell⟩
  · exact ⟨_, .slice none 0 0, [], γ, h, rfl, List.prefix_refl _, List.prefix_refl _, A, .nils, .inl ⟨rfl, 0, by omega, rfl⟩, Nat.zero_le _⟩
  · by_cases h0 : len = 0
    · subst h0
      exact ⟨_, .slice none 0 1, [], γ, h, rfl, List.prefix_refl _, List.prefix_refl _, A, .emp _ _, .inl ⟨rfl, 1, by omega, rfl⟩, Nat.zero_le _⟩
    · have hcell : ∀ i, i < cap → W.cell? (a.add i) = some (V i) ∧ DataW.trod enc P W 0 (fun _ => true) true n' e [V i] = some (D i, Pl i) := fun i hi => hcell i (by rw [show m = cap from hmm]; exact hi)
      have hz := (hcell 0 (by omega)).1
      have hsp : a.spot = none := by
        simp only [Addr.add, if_true] at hz
        unfold World.cell? at hz
        split at hz
        · split at hz
          · cases hz
          · rename_i hs
            simpa using hs
        · cases hz
      have hbl : a.block < W.heap.size := by
        have := World.block_lt_of_cell? W _ hz
        simpa [Addr.add] using this
      have hV : ∀ i, i < len → ∃ k, V i = .int .i64 k := fun i hi => by
        obtain ⟨k, hk, _⟩ := DataW.trod_int he (hcell i (by omega)).2
        exact ⟨k, by simpa using hk⟩
      let ns : List Int := (List.range len).map fun i => match V i with
        | .int _ k => k
        | _ => 0
      have hns : ns.length = len := by simp [ns]
      have hget : ∀ i, i < len → ns.getD i 0 = (match V i with
        | .int _ k => k
        | _ => 0) := fun i hi => by simp [ns, List.getD_eq_getElem?_getD, List.getElem?_map, List.getElem?_range hi]
      refine ⟨_, .slice (some ⟨h.length, 0, none⟩) ns.length 1, ns, γ ++ [⟨a.block, a.off, cap⟩], h.new ⟨ns.map (Value.int .i64), e, true, false⟩, rfl, List.prefix_append _ _, pre_new (List.prefix_refl _), ?_, ?_,
        Ints.own get_new_same rfl, by rw [hns]; omega⟩
      · refine A.new hbl fun j v hv => ?_
        rw [List.getElem?_map] at hv
        obtain ⟨k, hk, rfl⟩ := Option.map_eq_some_iff.1 hv
        have hj : j < len := by rw [← hns]; exact (List.getElem?_eq_some_iff.1 hk).1
        obtain ⟨k', hk'⟩ := hV j hj
        have hg := hget j hj
        rw [List.getD_eq_getElem?_getD, hk, hk'] at hg
        simp only [Option.getD_some] at hg
        subst hg
        refine ⟨rfl, _, ?_, .int _ _⟩
        have := (hcell j (by omega)).1
        rw [add_off a hsp, hk'] at this
        exact this
      · have := VR.slc (γ := γ ++ [⟨a.block, a.off, cap⟩]) h.length 0 ns.length 1 ⟨a.block, a.off, cap⟩ (by rw [← A.rel.len]; simp) (by omega) (by simp only; omega)
        have e1 : (some a : Option Addr) = some ⟨a.block, a.off + 0, none⟩ := by
          obtain ⟨b, o, s⟩ := a
          simp at hsp
          subst hsp
          rfl
        rw [e1]
        have e2 : (cap - 0) / 1 = cap := by simp
        rw [← hns, show (Value.slice (some ⟨a.block, a.off + 0, none⟩) ns.length cap) = Value.slice (some ⟨a.block, a.off + 0, none⟩) ns.length ((cap - 0) / 1) by rw [e2]]
        exact this

theorem trod_field {t : TypeId} {fs : Array Field} {n : Nat} {cs : List Value} {x : DataW H × List MemPlace} (hs : P.underlying t = some (.struct fs)) (hx : DataW.trod enc P W 0 (fun _ => true) true n t cs = some x)
    {i : Nat} {f : Field} (hf : fs[i]? = some f) : ∃ m y, DataW.trod enc P W 0 (fun _ => true) true m f.type ((cs.drop f.offset).take (P.cellsOf f.type)) = some y := by
  obtain ⟨xs, m, _, _, _, hl, hall⟩ := DataW.trod_struct hs hx
  have hi : i < xs.length := by
    rw [hl]
    exact (Array.getElem?_eq_some_iff.1 hf).1
  exact ⟨m, xs[i], by rw [hall i f hf, List.getElem?_eq_getElem hi]⟩
theorem trod_cells {t : TypeId} {fs : Array Field} {n : Nat} {cs : List Value} {x : DataW H × List MemPlace} (hs : P.underlying t = some (.struct fs)) (hx : DataW.trod enc P W 0 (fun _ => true) true n t cs = some x) : cs.length = P.cellsOf t := by
  obtain ⟨xs, m, _, _, hl, _, _⟩ := DataW.trod_struct hs hx
  exact hl
theorem trod_field_int {t : TypeId} {fs : Array Field} {n : Nat} {cs : List Value} {x : DataW H × List MemPlace} (hs : P.underlying t = some (.struct fs)) (hx : DataW.trod enc P W 0 (fun _ => true) true n t cs = some x)
    {i : Nat} {f : Field} (hf : fs[i]? = some f) (ht : P.underlying f.type = some (.int .i64)) : ∃ k, (cs.drop f.offset).take (P.cellsOf f.type) = [I64 k] ∧ (Lit.int .i64 k).wf = true := by
  obtain ⟨m, y, hy⟩ := trod_field hs hx hf
  obtain ⟨k, h1, _, h2⟩ := DataW.trod_int ht hy
  exact ⟨k, h1, h2⟩
theorem agg_of_cells {v : Value} {l : List Value} (h : v.cells.toList = l) (h2 : 2 ≤ l.length) : v = .agg l.toArray := by
  cases v with
  | agg cs =>
    simp only [Value.cells] at h
    rw [← h]
  | _ =>
    simp only [Value.cells] at h
    rw [← h] at h2
    simp at h2

/-- Four whole numbers and a list of them, side by side. -/
theorem adm_ints4 {γ : List G} {h : AH} (A : Adm P W γ h) {t e : TypeId} {f0 f1 f2 f3 f4 : Field} {v : Value} {d : DataW H} {ps : List MemPlace} (hs : P.underlying t = some (.struct #[f0, f1, f2, f3, f4]))
    (hct : P.cellsOf t = 5) (ho : f0.offset = 0 ∧ f1.offset = 1 ∧ f2.offset = 2 ∧ f3.offset = 3 ∧ f4.offset = 4)
    (hi : P.underlying f0.type = some (.int .i64) ∧ P.underlying f1.type = some (.int .i64) ∧ P.underlying f2.type = some (.int .i64) ∧ P.underlying f3.type = some (.int .i64))
    (hc : P.cellsOf f0.type = 1 ∧ P.cellsOf f1.type = 1 ∧ P.cellsOf f2.type = 1 ∧ P.cellsOf f3.type = 1 ∧ P.cellsOf f4.type = 1)
    (ht : P.underlying f4.type = some (.slice e)) (he : P.underlying e = some (.int .i64)) (hce : P.cellsOf e = 1) (hx : DataW.Trod enc P W 0 (fun _ => true) true t v d ps) :
    ∃ a b c d ns v' γ' h', γ <+: γ' ∧ h <+: h' ∧ Adm P W γ' h' ∧ VR γ' (.agg #[I64 a, I64 b, I64 c, I64 d, v']) v ∧ Ints h' v' ns ∧ ns.length ≤ maxLen := by
  obtain ⟨n, hx⟩ := hx
  have hl := trod_cells hs hx
  rw [hct] at hl
  obtain ⟨a, ha, _⟩ := trod_field_int hs hx (i := 0) (f := f0) rfl hi.1
  obtain ⟨b, hb, _⟩ := trod_field_int hs hx (i := 1) (f := f1) rfl hi.2.1
  obtain ⟨c, hcc, _⟩ := trod_field_int hs hx (i := 2) (f := f2) rfl hi.2.2.1
  obtain ⟨d, hd, _⟩ := trod_field_int hs hx (i := 3) (f := f3) rfl hi.2.2.2
  obtain ⟨m, y, hy⟩ := trod_field hs hx (i := 4) (f := f4) rfl
  obtain ⟨v', u, ns, γ', h', e1, q1, q2, q3, q4, q5, q6⟩ := adm_ints A ht he hce hy
  generalize hcs : v.cells.toList = cs at *
  rw [ho.1, hc.1] at ha
  rw [ho.2.1, hc.2.1] at hb
  rw [ho.2.2.1, hc.2.2.1] at hcc
  rw [ho.2.2.2.1, hc.2.2.2.1] at hd
  rw [ho.2.2.2.2, hc.2.2.2.2] at e1
  obtain ⟨c0, c1, c2, c3, c4, rfl⟩ : ∃ c0 c1 c2 c3 c4, cs = [c0, c1, c2, c3, c4] := by
    match cs, hl with
    | [c0, c1, c2, c3, c4], _ => exact ⟨_, _, _, _, _, rfl⟩
  simp at ha hb hcc hd e1
  subst ha hb hcc hd e1
  refine ⟨a, b, c, d, ns, u, γ', h', q1, q2, q3, ?_, q5, q6⟩
  rw [agg_of_cells hcs (by simp)]
  exact VR.aggL (VRL.cons (.int _ _) (VRL.cons (.int _ _) (VRL.cons (.int _ _) (VRL.cons (.int _ _) (VRL.cons q4 (VRL.nil _))))))

def tyInt (P : Program) (t : TypeId) : Bool := match P.underlying t with
  | some (.int .i64) => true
  | _ => false
def tySlice (P : Program) (t e : TypeId) : Bool := match P.underlying t with
  | some (.slice e') => e' == e
  | _ => false
theorem tyInt_eq {t : TypeId} (h : tyInt P t = true) : P.underlying t = some (.int .i64) := by
  unfold tyInt at h
  split at h
  · assumption
  · cases h
theorem tySlice_eq {t e : TypeId} (h : tySlice P t e = true) : P.underlying t = some (.slice e) := by
  unfold tySlice at h
  split at h
  · rename_i e' he
    have : e' = e := by simpa using h
    rw [he, this]
  · cases h
/-- .. the shape looked up by the kernel. -/
def isInts4 (P : Program) (t e : TypeId) : Bool := match P.underlying t with
  | some (.struct fs) => match fs.toList with
    | [f0, f1, f2, f3, f4] => P.cellsOf t == 5 && f0.offset == 0 && f1.offset == 1 && f2.offset == 2 && f3.offset == 3 && f4.offset == 4 &&
        [f0, f1, f2, f3].all (fun f => tyInt P f.type && P.cellsOf f.type == 1) && P.cellsOf f4.type == 1 && tySlice P f4.type e &&
        tyInt P e && P.cellsOf e == 1
    | _ => false
  | _ => false
theorem adm_tensor {γ : List G} {h : AH} (A : Adm P W γ h) {t : TypeId} (e : TypeId) (hk : isInts4 P t e = true) {v : Value} {d : DataW H} {ps : List MemPlace} (hx : DataW.Trod enc P W 0 (fun _ => true) true t v d ps) :
    ∃ a b c d ns v' γ' h', γ <+: γ' ∧ h <+: h' ∧ Adm P W γ' h' ∧ VR γ' (.agg #[I64 a, I64 b, I64 c, I64 d, v']) v ∧ Ints h' v' ns ∧ ns.length ≤ maxLen := by
  unfold isInts4 at hk
  split at hk
  · rename_i fs hs
    split at hk
    · rename_i f0 f1 f2 f3 f4 hf
      have hfs : fs = #[f0, f1, f2, f3, f4] := by
        rw [← hf]
      subst hfs
      simp only [List.all_cons, List.all_nil, Bool.and_true, Bool.and_eq_true, beq_iff_eq] at hk
      obtain ⟨⟨⟨⟨⟨⟨⟨⟨⟨⟨k0, k1⟩, k2⟩, k3⟩, k4⟩, k5⟩, ⟨i0, c0⟩, ⟨i1, c1⟩, ⟨i2, c2⟩, ⟨i3, c3⟩⟩, c4⟩, s4⟩, ie⟩, ce⟩ := hk
      exact adm_ints4 A hs k0 ⟨k1, k2, k3, k4, k5⟩ ⟨tyInt_eq i0, tyInt_eq i1, tyInt_eq i2, tyInt_eq i3⟩ ⟨c0, c1, c2, c3, c4⟩ (tySlice_eq s4) (tyInt_eq ie) ce hx
    · cases hk
  · cases hk

/-- Arguments read again in a world that kept what lay below. -/
theorem stays_all (hl : laidOutB P = true) {W W' : World} (bel : Below W.heap.size W W') : ∀ {ts : List TypeId} {vs : List Value} {ds : List (DataW H)} {ps : List MemPlace},
    (∀ t ∈ ts, P.readableRec t = true ∧ t < P.types.size) → DataW.TrodAll enc P W 0 (fun _ => true) true ts vs ds ps → DataW.TrodAll enc P W' 0 (fun b => decide (b < W.heap.size)) true ts vs ds ps
  | [], [], [], _, _, h => h
  | _ :: _, _ :: _, _ :: _, _, ht, ⟨p, q, h1, h2, e⟩ => by
    have hlt : ∀ r ∈ p, r.block < W.heap.size := by
      have hall : DataW.TrodAll enc P W 0 (fun _ => true) true [_] [_] [_] p := trodAll_mk1 h1
      exact hall.lt
    refine ⟨p, q, Go.WideElems.Trod_stays hl (ht _ (List.mem_cons.2 (.inl rfl))).1 (ht _ (List.mem_cons.2 (.inl rfl))).2 h1 (fun r hr => bel.same (hlt r hr)) (fun r hr => by simpa using hlt r hr), ?_, e⟩
    exact stays_all hl bel (fun t ht' => ht t (List.mem_cons.2 (.inr ht'))) h2

/-- What the abstract machine reaches, the program reaches. -/
theorem calls_of_WF {S : XS} (hm : P.follows .mixedOrders = true) (hE : ESound P S.E) (hT : TSound P S.T) {g : FuncId} {args args' : List Value} {γ : List G} {h : AH} {W : World} {Q : Value → AH → Prop}
    (A : Adm P W γ h) (hv : VRL γ args args') (hw : WF S g args h Q) :
    Calls P g args'.toArray W (fun e W' => ∃ v v' γ' h', e = .returned v' ∧ VR γ' v v' ∧ Q v h' ∧ Below W.heap.size W W') := by
  obtain ⟨k, v, h', h1, h2⟩ := hw
  have := (xcall_sound hm hE hT k g args h v h' h1).2 W.heap.size γ W args' A.rel hv
  refine this.mono fun e W' ⟨γ', v', q1, q2, q3⟩ => ⟨v, v', γ', h', q1, q2, h2, ?_⟩
  refine ⟨q3.os, q3.tape, q3.output, q3.size, fun b hb => q3.frame b hb fun ⟨n, blk, g, o1, o2, o3, o4⟩ => ?_⟩
  rw [A.ro n blk o1] at o3
  cases o3
end
end Go.Proofs.Ytapafdpnmakekaa.X

/- From the readings of lists, and of lists of lists, to the first heap. -/
set_option linter.unusedVariables false
set_option linter.unusedSimpArgs false
namespace Go.Proofs.Ytapafdpnmakekaa.X
open Go Go.RowKit Go.ChangeShapes Go.WideShapes Go.Deep

section
variable {H : Type} {enc : TypeId × Value → H} {P : Program} {W : World}

theorem cells_of_slice {t e : TypeId} {v : Value} {r : Reach} {base : Nat} (ht : P.underlying t = some (.slice e)) (hval : Value.okWide P W r base t v) : v.cells.toList = [v] := by
  cases v with
  | agg cs => simp [Value.okWide, ht, Cell.okWide, Cell.ok] at hval
  | _ => rfl

end
end Go.Proofs.Ytapafdpnmakekaa.X

/- From the readings of slices of flat elements, and of schemes, to the first heap. -/
set_option linter.unusedVariables false
set_option linter.unusedSimpArgs false
namespace Go.Proofs.Ytapafdpnmakekaa.X
open Go Go.RowKit Go.ChangeShapes Go.WideShapes Go.Deep

theorem u8_in {n : Int} (h : (Lit.int .u8 n).wf = true) : 0 ≤ n ∧ n ≤ 255 := by
  simp [Lit.wf, IntKind.min, IntKind.max, IntKind.signed, IntKind.bits] at h
  omega
/-- Fields side by side. -/
def sideBy (P : Program) : List Field → Nat → Nat → Bool
  | [], o, m => o == m
  | f :: fs, o, m => f.offset == o && sideBy P fs (o + P.cellsOf f.type) m
/-- A type of whole numbers of one kind alone. -/
def flatK (P : Program) (k : IntKind) : Nat → TypeId → Bool
  | 0, _ => false
  | f + 1, t => match P.underlying t with
    | some (.int k') => decide (k' = k) && P.cellsOf t == 1
    | some (.array n e) => flatK P k f e && P.cellsOf t == n * P.cellsOf e
    | some (.struct fs) => sideBy P fs.toList 0 (P.cellsOf t) && fs.toList.all fun x => flatK P k f x.type
    | _ => false
theorem sideBy_at {P : Program} : ∀ {fs : List Field} {o m j : Nat}, sideBy P fs o m = true → o ≤ j → j < m → ∃ (i : Nat) (f : Field), fs[i]? = some f ∧ f.offset ≤ j ∧ j < f.offset + P.cellsOf f.type
  | [], o, m, j, h, h1, h2 => by
    simp only [sideBy, beq_iff_eq] at h
    omega
  | f :: fs, o, m, j, h, h1, h2 => by
    simp only [sideBy, Bool.and_eq_true, beq_iff_eq] at h
    by_cases hj : j < o + P.cellsOf f.type
    · exact ⟨0, f, rfl, by omega, by omega⟩
    · obtain ⟨i, g, q1, q2, q3⟩ := sideBy_at h.2 (by omega) h2
      exact ⟨i + 1, g, by rw [List.getElem?_cons_succ]; exact q1, q2, q3⟩
section
variable {H : Type} {enc : TypeId × Value → H} {P : Program} {W : World} {k : IntKind}
theorem flat_trod : ∀ (f : Nat) (t : TypeId) (n : Nat) (cs : List Value) (x : DataW H × List MemPlace), flatK P k f t = true → DataW.trod enc P W 0 (fun _ => true) true n t cs = some x →
    cs.length = P.cellsOf t ∧ ∀ (j : Nat) (v : Value), cs[j]? = some v → ∃ m, v = .int k m ∧ (Lit.int k m).wf = true
  | 0, _, _, _, _, h, _ => by cases h
  | f + 1, t, n, cs, x, h, hx => by
    unfold flatK at h
    split at h
    · rename_i k' ht
      simp only [Bool.and_eq_true, decide_eq_true_eq, beq_iff_eq] at h
      obtain ⟨rfl, hc⟩ := h
      obtain ⟨m, rfl, _, hw⟩ := DataW.trod_int ht hx
      refine ⟨by simpa using hc.symm, fun j v hv => ?_⟩
      have : j = 0 := by
        have := (List.getElem?_eq_some_iff.1 hv).1
        simp at this
        exact this
      subst this
      simp at hv
      exact ⟨m, hv.symm, hw⟩
    · rename_i c e ht
      simp only [Bool.and_eq_true, beq_iff_eq] at h
      obtain ⟨xs, m, _, _, hl, hxs, hall⟩ := DataW.trod_array ht hx
      refine ⟨hl, fun j v hv => ?_⟩
      have hj := (List.getElem?_eq_some_iff.1 hv).1
      rw [hl, h.2] at hj
      have hc : 0 < P.cellsOf e := Nat.pos_of_ne_zero fun e0 => by rw [e0] at hj; simp at hj
      have hi : j / P.cellsOf e < c := Nat.div_lt_of_lt_mul (by rw [Nat.mul_comm]; exact hj)
      have hy := hall _ hi
      rw [List.getElem?_eq_getElem (by omega)] at hy
      have hdm := Nat.div_add_mod j (P.cellsOf e)
      rw [Nat.mul_comm] at hdm
      refine (flat_trod f e m _ _ h.1 hy).2 (j % P.cellsOf e) v ?_
      rw [List.getElem?_take, if_pos (Nat.mod_lt _ hc), List.getElem?_drop, hdm]
      exact hv
    · rename_i fs ht
      simp only [Bool.and_eq_true] at h
      obtain ⟨xs, m, _, _, hl, hxs, hall⟩ := DataW.trod_struct ht hx
      refine ⟨hl, fun j v hv => ?_⟩
      have hj := (List.getElem?_eq_some_iff.1 hv).1
      rw [hl] at hj
      obtain ⟨i, g, q1, q2, q3⟩ := sideBy_at h.1 (Nat.zero_le _) hj
      have q1' : fs[i]? = some g := by simpa using q1
      have hy := hall i g q1'
      have hi : i < xs.length := by
        rw [hxs]
        exact (Array.getElem?_eq_some_iff.1 q1').1
      rw [List.getElem?_eq_getElem hi] at hy
      have hg : flatK P k f g.type = true := List.all_eq_true.1 h.2 g (List.mem_of_getElem? q1)
      refine (flat_trod f g.type m _ _ hg hy).2 (j - g.offset) v ?_
      rw [List.getElem?_take, if_pos (by omega), List.getElem?_drop, show g.offset + (j - g.offset) = j by omega]
      exact hv
    · cases h

theorem adm_elems {γ : List G} {h : AH} (A : Adm P W γ h) {t e : TypeId} {n w f : Nat} {cs : List Value} {x : DataW H × List MemPlace} (ht : P.underlying t = some (.slice e)) (hf : flatK P k f e = true)
    (hw : P.cellsOf e = w) (hw0 : 0 < w) (hx : DataW.trod enc P W 0 (fun _ => true) true n t cs = some x) :
    ∃ v' v L γ' h', cs = [v'] ∧ γ <+: γ' ∧ h <+: h' ∧ Adm P W γ' h' ∧ VR γ' v v' ∧ Els k w h' v L ∧ L.length ≤ maxLen ∧ ∀ i, i < L.length → ∀ j, j < w → (Lit.int k ((L.getD i []).getD j 0)).wf = true := by
  rcases open_slice ht hx with ⟨rfl, _⟩ | ⟨a, len, cap, m, n', D, Pl, rfl, hb, hl, hm, hmm, _, hcell⟩
  · exact ⟨_, .slice none 0 0, [], γ, h, rfl, List.prefix_refl _, List.prefix_refl _, A, .nils, .inl ⟨rfl, 0, by omega, rfl⟩, Nat.zero_le _, fun i hi => by simp at hi⟩
  · by_cases h0 : len = 0
    · subst h0
      exact ⟨_, .slice none 0 1, [], γ, h, rfl, List.prefix_refl _, List.prefix_refl _, A, .emp _ _, .inl ⟨rfl, 1, by omega, rfl⟩, Nat.zero_le _, fun i hi => by simp at hi⟩
    · have hmc : m = cap := hmm
      have cell : ∀ i, i < cap → ∀ r, r < w → ∃ z, W.cell? ((a.add (i * w)).add r) = some (.int k z) ∧ (Lit.int k z).wf = true := fun i hi r hr => by
        obtain ⟨cs', h1, h2⟩ := hcell i (by omega)
        rw [hw] at h1
        obtain ⟨_, hlen, hc⟩ := World.cells?_some h1
        obtain ⟨_, hall⟩ := flat_trod f e n' cs' _ hf h2
        have hr' : r < cs'.length := by omega
        obtain ⟨z, hz, hwf⟩ := hall r _ (List.getElem?_eq_getElem hr')
        refine ⟨z, ?_, hwf⟩
        rw [hc r hr, List.getElem?_eq_getElem hr', hz]
      obtain ⟨z0, hz, _⟩ := cell 0 (by omega) 0 hw0
      rw [Nat.zero_mul] at hz
      have a0 : a.add 0 = a := by simp [Addr.add]
      rw [a0, a0] at hz
      have hsp : a.spot = none := by
        unfold World.cell? at hz
        split at hz
        · split at hz
          · cases hz
          · rename_i hs
            simpa using hs
        · cases hz
      have hbl : a.block < W.heap.size := World.block_lt_of_cell? W _ hz
      have cell' : ∀ j, j < len * w → ∃ z, W.cell? ⟨a.block, a.off + j, none⟩ = some (.int k z) ∧ (Lit.int k z).wf = true := fun j hj => by
        have hi : j / w < len := Nat.div_lt_of_lt_mul (by rw [Nat.mul_comm]; exact hj)
        obtain ⟨z, q1, q2⟩ := cell (j / w) (by omega) (j % w) (Nat.mod_lt _ hw0)
        refine ⟨z, ?_, q2⟩
        rw [add_off a hsp, add_off _ rfl] at q1
        have hdm := Nat.div_add_mod j w
        rw [Nat.mul_comm] at hdm
        rw [show a.off + j = a.off + j / w * w + j % w by omega]
        exact q1
      obtain ⟨N, hN⟩ : ∃ N : Nat → Int, ∀ j, j < len * w → W.cell? ⟨a.block, a.off + j, none⟩ = some (.int k (N j)) ∧ (Lit.int k (N j)).wf = true := by
        refine ⟨fun j => if hj : j < len * w then (cell' j hj).choose else 0, fun j hj => ?_⟩
        simp only [dif_pos hj]
        exact (cell' j hj).choose_spec
      let L : List (List Int) := (List.range len).map fun i => (List.range w).map fun r => N (i * w + r)
      have hLl : L.length = len := by simp [L]
      have hLg : ∀ i, i < len → L.getD i [] = (List.range w).map fun r => N (i * w + r) := fun i hi => by simp [L, List.getD_eq_getElem?_getD, List.getElem?_map, List.getElem?_range hi]
      let C : List Value := cel k ((List.range (len * w)).map N)
      have hCl : C.length = len * w := by simp [C, cel_len]
      refine ⟨_, .slice (some ⟨h.length, 0, none⟩) L.length w, L, γ ++ [⟨a.block, a.off, cap * w⟩], h.new ⟨C, e, true, false⟩, rfl, List.prefix_append _ _, pre_new (List.prefix_refl _), ?_, ?_,
        .inr ⟨h.length, 0, _, rfl, get_new_same, fun i hi => ?_⟩, by rw [hLl]; omega, fun i hi j hj => ?_⟩
      · refine A.new hbl fun j v hv => ?_
        have hj : j < len * w := by rw [← hCl]; exact (List.getElem?_eq_some_iff.1 hv).1
        have hv' : C[j]? = some (.int k (N j)) := by simp [C, cel, hj]
        rw [hv'] at hv
        obtain rfl := Option.some.inj hv
        exact ⟨rfl, _, (hN j hj).1, .int _ _⟩
      · have hcw : len * w ≤ cap * w := Nat.mul_le_mul_right _ hl
        have := VR.slc (γ := γ ++ [⟨a.block, a.off, cap * w⟩]) h.length 0 L.length w ⟨a.block, a.off, cap * w⟩ (by rw [← A.rel.len]; simp) hw0 (by rw [hLl]; simp only; omega)
        have e1 : (some a : Option Addr) = some ⟨a.block, a.off + 0, none⟩ := by
          obtain ⟨b, o, s⟩ := a
          simp at hsp
          subst hsp
          rfl
        rw [e1]
        have e2 : (cap * w - 0) / w = cap := by rw [Nat.sub_zero]; exact Nat.mul_div_cancel _ hw0
        simp only [e2, hLl] at this
        rw [hLl]
        exact this
      · rw [hLl] at hi
        have hr : i * w + w ≤ len * w := mul_row hi
        refine ⟨by simp only [hCl]; omega, ?_⟩
        rw [hLg i hi]
        simp only [C, cel_drop, cel_take, Nat.zero_add]
        congr 1
        refine List.ext_getElem? fun r => ?_
        rw [List.getElem?_take, List.getElem?_drop, List.getElem?_map, List.getElem?_map]
        by_cases hr' : r < w
        · rw [if_pos hr', List.getElem?_range hr', List.getElem?_range (by omega)]
          rfl
        · rw [if_neg hr', List.getElem?_eq_none (by simp; omega)]
          rfl
      · rw [hLl] at hi
        have hr : i * w + w ≤ len * w := mul_row hi
        rw [hLg i hi]
        have : ((List.range w).map fun r => N (i * w + r)).getD j 0 = N (i * w + j) := by simp [List.getD_eq_getElem?_getD, List.getElem?_map, List.getElem?_range hj]
        rw [this]
        exact (hN _ (by omega)).2

end
end Go.Proofs.Ytapafdpnmakekaa.X

/- From the reading of bytes to the first heap. -/
set_option linter.unusedVariables false
set_option linter.unusedSimpArgs false
namespace Go.Proofs.Ytapafdpnmakekaa.X
open Go Go.RowKit Go.ChangeShapes Go.WideShapes Go.Deep

section
variable {H : Type} {enc : TypeId × Value → H} {P : Program} {W : World}

def isByteS (P : Program) (t e : TypeId) : Bool := tySlice P t e && flatK P .u8 1 e && P.cellsOf e == 1

theorem adm_code {γ : List G} {h : AH} (A : Adm P W γ h) {t : TypeId} (e : TypeId) (hk : isByteS P t e = true) {v : Value} {d : DataW H} {ps : List MemPlace} {r : Reach} {base : Nat} (hval : Value.okWide P W r base t v)
    (hx : DataW.Trod enc P W 0 (fun _ => true) true t v d ps) :
    ∃ L u γ' h', γ <+: γ' ∧ h <+: h' ∧ Adm P W γ' h' ∧ VR γ' u v ∧ Els .u8 1 h' u L ∧ Byt 1 L := by
  simp only [isByteS, Bool.and_eq_true, beq_iff_eq] at hk
  obtain ⟨⟨k1, k2⟩, k3⟩ := hk
  obtain ⟨n, hx⟩ := hx
  obtain ⟨v', u, L, γ', h', e1, q1, q2, q3, q4, q5, q6, q7⟩ := adm_elems A (tySlice_eq k1) k2 k3 (by decide) hx
  rw [cells_of_slice (tySlice_eq k1) hval] at e1
  have e1 : v = v' := by simpa using e1
  subst e1
  exact ⟨L, u, γ', h', q1, q2, q3, q4, q5, fun i hi j hj => u8_in (q7 i hi j hj)⟩
end
end Go.Proofs.Ytapafdpnmakekaa.X

/- The row of rSums (printed by row.py). -/
namespace Go.Proofs.Ytapafdpnmakekaa.fnTensorSums
open Go Go.ChangeShapes Go.WideShapes Go.ChangeAt Go.RowKit Go.Proofs.Ytapafdpnmakekaa.X
set_option linter.unusedVariables false
theorem own : ownKnob Try.prog.godebug = none := by kernel_rfl
theorem laid : laidOutB Try.prog = true := by kernel_rfl
theorem shapeY : isByteS Try.prog 22 5 = true := by kernel_rfl
theorem readable0 : Try.prog.readableRec 22 = true := by kernel_rfl
theorem intable0 : 22 < Try.prog.types.size := of_decide_eq_true (by kernel_rfl)
theorem isbool : Try.prog.underlying 4 = some .bool := by kernel_rfl
theorem isint : Try.prog.underlying 2 = some (.int .i64) := by kernel_rfl
set_option maxRecDepth 100000 in
theorem lifted (os : Os) (started : os.Started) (H : Type) (enc : TypeId × Value → H) :
    ReturnsInHanded {} Try.checked os 4 .any (Rows.fnTensorSumsSpec.pre6 enc Try.prog Try.f4 Rows.fnTensorSumsRow.domain false) (Rows.fnTensorSumsSpec.post enc Try.prog Try.f4 false true false false) := by
  refine returnsInHanded_of_change_sized (C := Try.checked) own started (by kernel_rfl) Try.func4
    (ChangeSpec.witness6 (enc := enc) (C := Try.checked) false ⟨#[], #[.slice none 0 0], []⟩ 8 (by kernel_rfl) (by kernel_rfl) (by kernel_rfl) (by kernel_rfl)) ?_
  intro W base args ds gs before hval0 hW hcnd hsz0 _
  have hval : ∀ (j : Nat) t v, Try.f4.params[j]? = some t → args[j]? = some v → Value.okWide Try.prog W .any base t v := hval0
  have hW' := hW
  obtain ⟨p, q, hA0, hV, rfl, hfz, hnd⟩ := hW
  have hA : DataW.TrodAll enc Try.prog W 0 (fun _ => true) true Try.f4.params.toList args.toList ds p := hA0
  rw [Try.params4] at hA hval
  obtain ⟨v0, vs0, d0, ds0, p0, q0, hargs0, rfl, rfl, h0, r0⟩ := trodAll_cons hA
  obtain ⟨rfl, rfl, rfl⟩ := trodAll_nil r0
  obtain rfl : args = #[v0] := by cases args; simp_all
  obtain ⟨rfl, rfl⟩ := trodVars_none hV
  obtain ⟨ns0, u0, γ0, g0, pg0, ph0, A0, hv0, hi0, hl0⟩ := adm_code (Adm.nil Try.prog W) 5 shapeY (hval 0 _ v0 rfl rfl) h0
  have hi0' := hi0
  have key := law_TensorSums hi0' hl0
  refine (calls_of_WF (S := S) orders esound tsound A0 (VRL.cons hv0 (VRL.nil _)) key).mono fun e W' ⟨v, u, γ1, h1, he, hvr, hb, bel⟩ => ?_
  subst hb
  obtain rfl := hvr.bool_inv
  subst he
  have st := stays_all laid bel (ts := [22]) (fun t ht => by
    simp only [List.mem_cons, List.not_mem_nil, or_false] at ht
    rw [ht]
    exact ⟨readable0, intable0⟩) hA
  exact ⟨_, rfl, _, _, _, [], _, [], hW', trodAll_mk1 (shut_bool isbool _), st, rfl, bel.frame _, fun h => by cases h⟩
theorem j0 : Program.unfollowed Try.pinned.checked.prog 4 = true := by kernel_rfl
theorem j1 : (Rows.fnTensorSumsRow.inPlace == Program.inPlace Try.pinned.checked.prog 4) = true := by kernel_rfl
theorem j2 : (Rows.fnTensorSumsRow.unfollowed == Program.unfollowed Try.pinned.checked.prog 4) = true := by
  rw [j0]
  rfl
theorem j3 : (Rows.fnTensorSumsRow.recurses == Program.recurses Try.pinned.checked.prog 4) = true := by
  unfold Program.recurses
  rw [j0]
  rfl
theorem j4 : (Rows.fnTensorSumsRow.named == Program.varsNamed Try.pinned.checked.prog 4) = true := by kernel_rfl
theorem closed : joinedFacts Try.pinned.checked.prog 4 Try.f4 Rows.fnTensorSumsSpec Rows.fnTensorSumsRow = true := by
  unfold joinedFacts
  rw [j1, j2, j3, j4]
  kernel_rfl
theorem over : Rows.fnTensorSumsRow.holds Try.pinned (OpenSpec.ofChange Rows.fnTensorSumsSpec) :=
  OpenClaim.holds_of_wide 4 Try.f4 rfl rfl rfl rfl rfl rfl rfl ⟨rfl, rfl, rfl, rfl, rfl⟩ rfl rfl rfl rfl rfl (by kernel_rfl) Try.func4 closed
    (of_decide_eq_true (by kernel_rfl)) (by unfold Func.isWrapper; first | (rw [if_pos (by decide +kernel)]; kernel_rfl) | (rw [if_neg (by decide +kernel)]; exact ⟨rfl, rfl⟩))
    (fun os started H enc _ => lifted os started H enc)
end Go.Proofs.Ytapafdpnmakekaa.fnTensorSums
namespace Go.Proofs.Ytapafdpnmakekaa
theorem fnTensorSums_holds : Rows.FnTensorSumsSaid := fnTensorSums.over
end Go.Proofs.Ytapafdpnmakekaa
