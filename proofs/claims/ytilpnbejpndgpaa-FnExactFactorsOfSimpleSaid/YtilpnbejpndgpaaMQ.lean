/- Texts of one claim, put together by merge.py: XP4. -/
import Derived.Test.YtilpnbejpndgpaaM6
/- RunProgram and DepthsOf, both sides. -/
set_option linter.unusedVariables false
set_option linter.unusedSimpArgs false
set_option maxRecDepth 20000
set_option maxHeartbeats 4000000
namespace Go.Proofs.Ytilpnbejpndgpaa.X
open Go Go.RowKit

/-! ### RunProgram -/
def rpOK (x : Prg) (ns : List Int) : Prop := allIn x.p ns = true ∧ (ns.length : Int) = x.n
instance {x : Prg} {ns : List Int} : Decidable (rpOK x ns) := by unfold rpOK; infer_instance
def rpR (x : Prg) (ns : List Int) : List Int × Int := if isPrg x = true then (if rpOK x ns then (runP x ns, 0) else ([], 2)) else ([], 1)
theorem rpR_small (x : Prg) (ns : List Int) : SmallS (rpR x ns).1 := by
  unfold rpR SmallS
  split
  · rename_i h
    split
    · have := (isPrg_facts h).out
      rw [runP_len]
      omega
    · simp
  · simp
theorem s_RunProgram {v w u : Value} {x : Prg} {ns : List Int} {h : AH} {Q : Value → AH → Prop} (hv : PrgR h v w x) (hl : SmallP x) (hu : Ints h u ns) (hm : (ns.length : Int) ≤ 1048576)
    (hQ : ∀ v' h', h <+: h' → OwnR h h' v' (rpR x ns).1 → Q (.tuple #[v', I64 (rpR x ns).2]) h') : WF S 35 [prgV x v w, u] h Q := by
  refine WF_fn (fn := c35) rfl rfl ?_
  unfold c35
  ((try simp (maxSteps := 3000000) (dsimp := false) (disch := first | omega | (simp only [len_new, len_put, len_kill]; omega)) only [↓ypre, ypost, ↓reduceIte, Nat.reduceEqDiff, Nat.reduceAdd, Nat.reduceSub, Nat.reduceLeDiff, Nat.zero_add, Nat.sub_zero, ynew, prgV, hv.1.one, hv.2.one]); try simp only [yback])
  generalize hH1 : AH.new h _ = H1
  obtain ⟨hb1, p1, n1⟩ := new_facts hH1
  ((try simp (maxSteps := 3000000) (dsimp := false) (disch := first | omega | (simp only [len_new, len_put, len_kill]; omega)) only [↓ypre, ypost, ↓reduceIte, Nat.reduceEqDiff, Nat.reduceAdd, Nat.reduceSub, Nat.reduceLeDiff, Nat.zero_add, Nat.sub_zero, ynew, rdn_of hb1]); try simp only [yback])
  refine s_IsPrg (hv.pre p1) hl fun H2 p2 => ?_
  have hb2 := pre_get p2 hb1
  unfold rpR at hQ
  cases h1 : isPrg x with
  | false =>
    rw [h1, if_neg (by decide)] at hQ
    ((try simp (maxSteps := 3000000) (dsimp := false) (disch := first | omega | (simp only [len_new, len_put, len_kill]; omega)) only [↓ypre, ypost, ↓reduceIte, Nat.reduceEqDiff, Nat.reduceAdd, Nat.reduceSub, Nat.reduceLeDiff, Nat.zero_add, Nat.sub_zero, ynew]); try simp only [yback])
    exact hQ _ _ (p1.trans p2) (.inl ⟨rfl, rfl⟩)
  | true =>
    rw [h1, if_pos rfl] at hQ
    have pf := isPrg_facts h1
    have no : ¬ rpOK x ns → ∀ h', h <+: h' → Q (.tuple #[.slice none 0 0, I64 2]) h' := fun hn h' p => by
      rw [if_neg hn] at hQ
      exact hQ _ _ p (.inl ⟨rfl, rfl⟩)
    have p12 := p1.trans p2
    ((try simp (maxSteps := 3000000) (dsimp := false) (disch := first | omega | (simp only [len_new, len_put, len_kill]; omega)) only [↓ypre, ypost, ↓reduceIte, Nat.reduceEqDiff, Nat.reduceAdd, Nat.reduceSub, Nat.reduceLeDiff, Nat.zero_add, Nat.sub_zero, ynew, rd1_of hb2]); try simp only [yback])
    refine s_l05Numbers (hu.pre p12) hm pf.p ?_
    by_cases h3 : (allIn x.p ns && decide ((ns.length : Int) = x.n)) = true
    case neg =>
      rw [Bool.not_eq_true] at h3
      ((try simp (maxSteps := 3000000) (dsimp := false) (disch := first | omega | (simp only [len_new, len_put, len_kill]; omega)) only [↓ypre, ypost, ↓reduceIte, Nat.reduceEqDiff, Nat.reduceAdd, Nat.reduceSub, Nat.reduceLeDiff, Nat.zero_add, Nat.sub_zero, ynew, h3]); try simp only [yback])
      refine no (fun q => ?_) _ p12
      rw [q.1, q.2] at h3
      simp at h3
    rw [h3]
    rw [Bool.and_eq_true, decide_eq_true_eq] at h3
    rw [if_pos (show rpOK x ns from h3)] at hQ
    ((try simp (maxSteps := 3000000) (dsimp := false) (disch := first | omega | (simp only [len_new, len_put, len_kill]; omega)) only [↓ypre, ypost, ↓reduceIte, Nat.reduceEqDiff, Nat.reduceAdd, Nat.reduceSub, Nat.reduceLeDiff, Nat.zero_add, Nat.sub_zero, ynew, rdn_of hb2]); try simp only [yback])
    refine s_run (hv.pre p12) pf (hu.pre p12) h3.1 h3.2 fun n full H3 hn p3 o => ?_
    ((try simp (maxSteps := 3000000) (dsimp := false) (disch := first | omega | (simp only [len_new, len_put, len_kill]; omega)) only [↓ypre, ypost, ↓reduceIte, Nat.reduceEqDiff, Nat.reduceAdd, Nat.reduceSub, Nat.reduceLeDiff, Nat.zero_add, Nat.sub_zero, ynew]); try simp only [yback])
    exact hQ _ _ (p12.trans p3) (o.ownR (by have := pre_len p12; omega))
theorem i_RunProgram {v w u : Value} {x : Prg} {ns : List Int} {h : AH} {Q : Value → AH → Prop} (hv : PrgR h v w x) (hl : SmallP x) (hu : Ints h u ns) (hm : (ns.length : Int) ≤ 1048576)
    (hQ : ∀ v' h', h <+: h' → OwnR h h' v' (rpR x ns).1 → Q (.tuple #[v', I64 (rpR x ns).2]) h') : WF S 37 [prgV x v w, u] h Q := by
  refine WF_fn (fn := c37) rfl rfl ?_
  unfold c37
  ((try simp (maxSteps := 3000000) (dsimp := false) (disch := first | omega | (simp only [len_new, len_put, len_kill]; omega)) only [↓ypre, ypost, ↓reduceIte, Nat.reduceEqDiff, Nat.reduceAdd, Nat.reduceSub, Nat.reduceLeDiff, Nat.zero_add, Nat.sub_zero, ynew, prgV, hv.1.one, hv.2.one]); try simp only [yback])
  generalize hH1 : AH.new h _ = H1
  obtain ⟨hb1, p1, n1⟩ := new_facts hH1
  ((try simp (maxSteps := 3000000) (dsimp := false) (disch := first | omega | (simp only [len_new, len_put, len_kill]; omega)) only [↓ypre, ypost, ↓reduceIte, Nat.reduceEqDiff, Nat.reduceAdd, Nat.reduceSub, Nat.reduceLeDiff, Nat.zero_add, Nat.sub_zero, ynew, rdn_of hb1]); try simp only [yback])
  refine i_IsPrg (hv.pre p1) hl fun H2 p2 => ?_
  have hb2 := pre_get p2 hb1
  unfold rpR at hQ
  cases h1 : isPrg x with
  | false =>
    rw [h1, if_neg (by decide)] at hQ
    ((try simp (maxSteps := 3000000) (dsimp := false) (disch := first | omega | (simp only [len_new, len_put, len_kill]; omega)) only [↓ypre, ypost, ↓reduceIte, Nat.reduceEqDiff, Nat.reduceAdd, Nat.reduceSub, Nat.reduceLeDiff, Nat.zero_add, Nat.sub_zero, ynew]); try simp only [yback])
    exact hQ _ _ (p1.trans p2) (.inl ⟨rfl, rfl⟩)
  | true =>
    rw [h1, if_pos rfl] at hQ
    have pf := isPrg_facts h1
    have no : ¬ rpOK x ns → ∀ h', h <+: h' → Q (.tuple #[.slice none 0 0, I64 2]) h' := fun hn h' p => by
      rw [if_neg hn] at hQ
      exact hQ _ _ p (.inl ⟨rfl, rfl⟩)
    have p12 := p1.trans p2
    by_cases h4 : (ns.length : Int) = x.n
    case neg =>
      ((try simp (maxSteps := 3000000) (dsimp := false) (disch := first | omega | (simp only [len_new, len_put, len_kill]; omega)) only [↓ypre, ypost, ↓reduceIte, Nat.reduceEqDiff, Nat.reduceAdd, Nat.reduceSub, Nat.reduceLeDiff, Nat.zero_add, Nat.sub_zero, ynew, rd1_of hb2, hu.len, decide_eq_true (show (ns.length : Int) ≠ x.n from h4)]); try simp only [yback])
      exact no (fun q => h4 q.2) _ p12
    ((try simp (maxSteps := 3000000) (dsimp := false) (disch := first | omega | (simp only [len_new, len_put, len_kill]; omega)) only [↓ypre, ypost, ↓reduceIte, Nat.reduceEqDiff, Nat.reduceAdd, Nat.reduceSub, Nat.reduceLeDiff, Nat.zero_add, Nat.sub_zero, ynew, rd1_of hb2, hu.len, decide_eq_false (show ¬ (ns.length : Int) ≠ x.n from fun y => y h4)]); try simp only [yback])
    refine i_areNumbers (hu.pre p12) hm ?_
    cases h5 : allIn x.p ns with
    | false =>
      ((try simp (maxSteps := 3000000) (dsimp := false) (disch := first | omega | (simp only [len_new, len_put, len_kill]; omega)) only [↓ypre, ypost, ↓reduceIte, Nat.reduceEqDiff, Nat.reduceAdd, Nat.reduceSub, Nat.reduceLeDiff, Nat.zero_add, Nat.sub_zero, ynew]); try simp only [yback])
      exact no (fun q => by rw [q.1] at h5; cases h5) _ p12
    | true =>
    have h3 := And.intro h5 h4
    rw [if_pos (show rpOK x ns from h3)] at hQ
    ((try simp (maxSteps := 3000000) (dsimp := false) (disch := first | omega | (simp only [len_new, len_put, len_kill]; omega)) only [↓ypre, ypost, ↓reduceIte, Nat.reduceEqDiff, Nat.reduceAdd, Nat.reduceSub, Nat.reduceLeDiff, Nat.zero_add, Nat.sub_zero, ynew, rdn_of hb2]); try simp only [yback])
    refine i_run (hv.pre p12) pf (hu.pre p12) h3.1 h3.2 fun n full H3 hn p3 o => ?_
    ((try simp (maxSteps := 3000000) (dsimp := false) (disch := first | omega | (simp only [len_new, len_put, len_kill]; omega)) only [↓ypre, ypost, ↓reduceIte, Nat.reduceEqDiff, Nat.reduceAdd, Nat.reduceSub, Nat.reduceLeDiff, Nat.zero_add, Nat.sub_zero, ynew]); try simp only [yback])
    exact hQ _ _ (p12.trans p3) (o.ownR (by have := pre_len p12; omega))

/-! ### DepthsOf -/
def mxI (a c : Int) : Int := if c > a then c else a
def depS (st : List (List Int)) (n : Nat) : Nat → List Int
  | 0 => List.replicate n 0
  | i + 1 => depS st n i ++ [1 + mxI ((depS st n i).getD (nq (st.getD i []) 0) 0) ((depS st n i).getD (nq (st.getD i []) 1) 0)]
theorem depS_len {st : List (List Int)} {n : Nat} : ∀ {i : Nat}, (depS st n i).length = n + i
  | 0 => by simp [depS]
  | i + 1 => by simp [depS, depS_len (i := i)]; omega
theorem depS_in {st : List (List Int)} {n : Nat} : ∀ {i j : Nat}, 0 ≤ (depS st n i).getD j 0 ∧ (depS st n i).getD j 0 ≤ i
  | 0, j => by
    simp only [depS, List.getD_eq_getElem?_getD, List.getElem?_replicate]
    split <;> simp
  | i + 1, j => by
    unfold depS
    by_cases h : j < (depS st n i).length
    · rw [getD_app_l h]
      have := depS_in (st := st) (n := n) (i := i) (j := j)
      omega
    · rw [getD_app_r (by omega)]
      have h1 := depS_in (st := st) (n := n) (i := i) (j := nq (st.getD i []) 0)
      have h2 := depS_in (st := st) (n := n) (i := i) (j := nq (st.getD i []) 1)
      by_cases h0 : j - (depS st n i).length = 0
      · rw [h0]
        show 0 ≤ 1 + mxI _ _ ∧ 1 + mxI _ _ ≤ _
        unfold mxI
        split <;> omega
      · rw [List.getD_eq_getElem?_getD, List.getElem?_eq_none (by simp; omega)]
        simp
        omega
def depO (out : List (List Int)) (D : List Int) : Nat → List Int
  | 0 => []
  | i + 1 => depO out D i ++ [if (out.getD i []).getD 1 0 = 0 then 0 else D.getD (nq (out.getD i []) 0) 0]
theorem depO_len {out : List (List Int)} {D : List Int} : ∀ {i : Nat}, (depO out D i).length = i
  | 0 => rfl
  | i + 1 => by simp [depO, depO_len (i := i)]
def dpR (x : Prg) : List Int × Int := if isPrg x = true then (depO x.out (depS x.st x.n.toNat x.st.length) x.out.length, 0) else ([], 1)
theorem dpR_small (x : Prg) : SmallS (dpR x).1 := by
  unfold dpR SmallS
  split
  · rename_i h
    have := (isPrg_facts h).out
    rw [depO_len]
    omega
  · simp
theorem s_DepthsOf {v w : Value} {x : Prg} {h : AH} {Q : Value → AH → Prop} (hv : PrgR h v w x) (hl : SmallP x)
    (hQ : ∀ v' h', h <+: h' → OwnR h h' v' (dpR x).1 → Q (.tuple #[v', I64 (dpR x).2]) h') : WF S 27 [prgV x v w] h Q := by
  refine WF_fn (fn := c27) rfl rfl ?_
  unfold c27
  ((try simp (maxSteps := 3000000) (dsimp := false) (disch := first | omega | (simp only [len_new, len_put, len_kill]; omega)) only [↓ypre, ypost, ↓reduceIte, Nat.reduceEqDiff, Nat.reduceAdd, Nat.reduceSub, Nat.reduceLeDiff, Nat.zero_add, Nat.sub_zero, ynew, prgV, hv.1.one, hv.2.one]); try simp only [yback])
  generalize hH1 : AH.new h _ = H1
  obtain ⟨hb1, p1, n1⟩ := new_facts hH1
  ((try simp (maxSteps := 3000000) (dsimp := false) (disch := first | omega | (simp only [len_new, len_put, len_kill]; omega)) only [↓ypre, ypost, ↓reduceIte, Nat.reduceEqDiff, Nat.reduceAdd, Nat.reduceSub, Nat.reduceLeDiff, Nat.zero_add, Nat.sub_zero, ynew, rdn_of hb1]); try simp only [yback])
  refine s_IsPrg (hv.pre p1) hl fun H2 p2 => ?_
  have hb2 := pre_get p2 hb1
  unfold dpR at hQ
  cases h1 : isPrg x with
  | false =>
    rw [h1, if_neg (by decide)] at hQ
    ((try simp (maxSteps := 3000000) (dsimp := false) (disch := first | omega | (simp only [len_new, len_put, len_kill]; omega)) only [↓ypre, ypost, ↓reduceIte, Nat.reduceEqDiff, Nat.reduceAdd, Nat.reduceSub, Nat.reduceLeDiff, Nat.zero_add, Nat.sub_zero, ynew]); try simp only [yback])
    exact hQ _ _ (p1.trans p2) (.inl ⟨rfl, rfl⟩)
  | true =>
    rw [h1, if_pos rfl] at hQ
    have pf := isPrg_facts h1
    have fp := pf.p
    have fn := pf.n
    have fst := pf.st
    have fout := pf.out
    have p12 := p1.trans p2
    obtain ⟨N, hN⟩ : ∃ N : Nat, x.n = N := ⟨x.n.toNat, by omega⟩
    have hNt : x.n.toNat = N := by omega
    rw [hNt] at hQ
    ((try simp (maxSteps := 3000000) (dsimp := false) (disch := first | omega | (simp only [len_new, len_put, len_kill]; omega)) only [↓ypre, ypost, ↓reduceIte, Nat.reduceEqDiff, Nat.reduceAdd, Nat.reduceSub, Nat.reduceLeDiff, Nat.zero_add, Nat.sub_zero, ynew, rd1_of hb2]); try simp only [yback])
    refine ⟨by omega, ?_⟩
    rw [hNt, zrep_ints]
    generalize hH3 : AH.new H2 _ = H3
    obtain ⟨hb3, p3, n3⟩ := new_facts hH3
    have lv : Lst H3 H2.length (depS x.st N 0) true := hb3
    have sl0 : (Value.slice (some ⟨H2.length, 0, none⟩) N 1) = sl H2.length (depS x.st N 0).length := by rw [depS_len]; rfl
    rw [sl0]
    ((try simp (maxSteps := 3000000) (dsimp := false) (disch := first | omega | (simp only [len_new, len_put, len_kill]; omega)) only [↓ypre, ypost, ↓reduceIte, Nat.reduceEqDiff, Nat.reduceAdd, Nat.reduceSub, Nat.reduceLeDiff, Nat.zero_add, Nat.sub_zero, ynew]); try simp only [yback])
    generalize hH4 : AH.new H3 _ = H4
    obtain ⟨hb4, p4, n4⟩ := new_facts hH4
    have lo : Lst H4 H3.length [] true := hb4
    have hb4' := pre_get (p3.trans p4) hb2
    refine WC_loop_inv (fun m f K1 => ∃ (i : Nat) (kv : Nat) (fu : Bool), m = x.st.length - i ∧ i ≤ x.st.length ∧ f 1 = .pointer (some ⟨h.length, 0, none⟩) ∧ f 4 = sl kv (depS x.st N i).length ∧ f 5 = sl H3.length 0 ∧ f 6 = I64 i ∧ (H2 <+: K1) ∧ (Lst K1 kv (depS x.st N i) fu) ∧ (Lst K1 H3.length [] true) ∧ (H2.length ≤ kv ∧ kv ≠ H3.length)) ?_ (x.st.length - 0) _ _ ⟨0, H2.length, true, rfl, by omega, (by first | rfl | (simp [upd_apply]; done)), (by first | rfl | (simp [upd_apply]; done)), (by first | rfl | (simp [upd_apply]; done)), (by first | rfl | (simp [upd_apply]; done)), p3.trans p4, lv.pre p4, lo, ⟨Nat.le_refl _, by omega⟩⟩
    rintro m f K1 ⟨i, kv, fu, rfl, hi, f1, f4, f5, f6, pp, lv, lo, hk⟩
    have hbK := pre_get pp hb2
    have ltK := get_lt hbK
    have hvK := hv.pre (p12.trans pp)
    have ltv := lv.lt
    have vl := depS_len (st := x.st) (n := N) (i := i)
    by_cases hlt : (i : Int) < x.st.length
    · have hi' : i < x.st.length := by omega
      obtain ⟨n, off, hix, hrn⟩ := hvK.1.rdw hi'
      obtain ⟨n', off', hix', hrn', hr1⟩ := hvK.1.at hi'
      obtain ⟨a, b, d, hq⟩ := all3 (hvK.1.wid hi')
      have r0 := hr1 0 (by omega)
      have r1 := hr1 1 (by omega)
      rw [hq, cel_3] at hrn
      rw [hq] at r0 r1
      simp only [Nat.add_zero, List.getD_cons_zero, List.getD_cons_succ] at r0 r1
      have s3 := pf.st3 hi' hq
      have hA := depS_in (st := x.st) (n := N) (i := i) (j := a.toNat)
      have hB := depS_in (st := x.st) (n := N) (i := i) (j := b.toNat)
      have ixa := Lst.ix (n := kv) (j := a) (len := (depS x.st N i).length) (by omega)
      have ixb := Lst.ix (n := kv) (j := b) (len := (depS x.st N i).length) (by omega)
      have rda := lv.rd (j := a.toNat) (by omega)
      have rdb := lv.rd (j := b.toNat) (by omega)
      have emx : ∀ a c : Int, (if c > a then c else a) = mxI a c := fun a c => rfl
      have bmx : 0 ≤ mxI ((depS x.st N i).getD a.toNat 0) ((depS x.st N i).getD b.toNat 0) ∧ mxI ((depS x.st N i).getD a.toNat 0) ((depS x.st N i).getD b.toNat 0) ≤ 900 := by unfold mxI; split <;> omega
      have ev : depS x.st N (i + 1) = depS x.st N i ++ [1 + mxI ((depS x.st N i).getD a.toNat 0) ((depS x.st N i).getD b.toNat 0)] := by
        rw [depS, hq]
        rfl
      ((try simp (maxSteps := 3000000) (dsimp := false) (disch := first | omega | (simp only [len_new, len_put, len_kill]; omega)) only [↓ypre, ypost, ↓reduceIte, Nat.reduceEqDiff, Nat.reduceAdd, Nat.reduceSub, Nat.reduceLeDiff, Nat.zero_add, Nat.sub_zero, ynew, f1, f4, f5, f6, Nat.add_zero, rd1_of hbK, hvK.1.len, decide_eq_true hlt, hix', r0, r1, ixa, ixb, rda, rdb, ↓yWX_mmx, mmx_max, emx, wrap64_in]); try simp only [yback])
      refine lv.app (by omega) fun H5 l5 pre5 own5 lst5 lv5 => ?_
      ((try simp (maxSteps := 3000000) (dsimp := false) (disch := first | omega | (simp only [len_new, len_put, len_kill]; omega)) only [↓ypre, ypost, ↓reduceIte, Nat.reduceEqDiff, Nat.reduceAdd, Nat.reduceSub, Nat.reduceLeDiff, Nat.zero_add, Nat.sub_zero, ynew, f1, f4, f5, f6, wrap64_in]); try simp only [yback])
      rw [← ev] at lv5
      refine InvQ_go (x.st.length - (i + 1)) (by omega) ⟨(i + 1), (K1.length + 1), false, rfl, by omega, (by first | rfl | exact f1 | (simp only [upd_apply]; rfl) | (show I64 _ = _; congr 1; omega)), (by show sl _ _ = _; rw [ev]), (by first | rfl | exact f5 | (simp only [upd_apply]; rfl) | (show I64 _ = _; congr 1; omega)), (by first | rfl | exact f6 | (simp only [upd_apply]; rfl) | (show I64 _ = _; congr 1; omega)), (pre5 _ hk.1 pp), lv5, (lst5 _ _ _ (fun e => hk.2 e.symm) lo), ⟨by have := pre_len pp; omega, by have := lo.lt; omega⟩⟩
    have ei : i = x.st.length := by omega
    subst ei
    ((try simp (maxSteps := 3000000) (dsimp := false) (disch := first | omega | (simp only [len_new, len_put, len_kill]; omega)) only [↓ypre, ypost, ↓reduceIte, Nat.reduceEqDiff, Nat.reduceAdd, Nat.reduceSub, Nat.reduceLeDiff, Nat.zero_add, Nat.sub_zero, ynew, f1, f4, f5, f6, rd1_of hbK, hvK.1.len, hvK.2.len, decide_eq_false hlt]); try simp only [yback])
    have va : ∀ j : Nat, 0 ≤ (depS x.st N x.st.length).getD j 0 ∧ (depS x.st N x.st.length).getD j 0 ≤ x.st.length := fun j => depS_in
    generalize depS x.st N x.st.length = vs at *
    have lo' : Lst K1 H3.length (depO x.out vs 0) true := lo
    refine WC_loop_inv (fun m f K2 => ∃ (i : Nat) (ko : Nat) (fo : Bool), m = x.out.length - i ∧ i ≤ x.out.length ∧ f 1 = .pointer (some ⟨h.length, 0, none⟩) ∧ f 4 = sl kv vs.length ∧ f 5 = sl ko (depO x.out vs i).length ∧ f 7 = I64 i ∧ (H2 <+: K2) ∧ (Lst K2 kv vs fu) ∧ (Lst K2 ko (depO x.out vs i) fo) ∧ (H2.length ≤ ko ∧ kv ≠ ko)) ?_ (x.out.length - 0) _ _ ⟨0, H3.length, true, rfl, by omega, (by first | rfl | exact f1 | (simp [upd_apply]; done)), (by first | rfl | exact f4 | (simp [upd_apply]; done)), (by first | rfl | exact f5 | (simp [upd_apply]; done)), (by first | rfl | (simp [upd_apply]; done)), pp, lv, lo', ⟨by omega, hk.2⟩⟩
    rintro m f K2 ⟨i, ko, fo, rfl, hi, f1, f4, f5, f7, pp, lv, lo, hk⟩
    have hbK := pre_get pp hb2
    have ltK := get_lt hbK
    have hvK := hv.pre (p12.trans pp)
    have ltv := lv.lt
    have lto := lo.lt
    have ol := depO_len (out := x.out) (D := vs) (i := i)
    by_cases hlt : (i : Int) < x.out.length
    · have hi' : i < x.out.length := by omega
      obtain ⟨n, off, hix, hrn⟩ := hvK.2.rdw hi'
      obtain ⟨n', off', hix', hrn', hr1⟩ := hvK.2.at hi'
      obtain ⟨a, b, hq⟩ := all2 (hvK.2.wid hi')
      have r0 := hr1 0 (by omega)
      have r1 := hr1 1 (by omega)
      rw [hq, cel_2] at hrn
      rw [hq] at r0 r1
      simp only [Nat.add_zero, List.getD_cons_zero, List.getD_cons_succ] at r0 r1
      have s2 := pf.out2 hi' hq
      have ixa := Lst.ix (n := kv) (j := a) (len := vs.length) (by omega)
      have rda := lv.rd (j := a.toNat) (by omega)
      by_cases hb0 : b = 0
      · have ev : depO x.out vs (i + 1) = depO x.out vs i ++ [0] := by
          rw [depO, hq]
          show depO x.out vs i ++ [if b = 0 then 0 else _] = _
          rw [if_pos hb0]
        ((try simp (maxSteps := 3000000) (dsimp := false) (disch := first | omega | (simp only [len_new, len_put, len_kill]; omega)) only [↓ypre, ypost, ↓reduceIte, Nat.reduceEqDiff, Nat.reduceAdd, Nat.reduceSub, Nat.reduceLeDiff, Nat.zero_add, Nat.sub_zero, ynew, f1, f4, f5, f7, Nat.add_zero, rd1_of hbK, hvK.2.len, decide_eq_true hlt, hix', r0, r1, ixa, rda, wrap64_in, decide_eq_true hb0]); try simp only [yback])
        refine lo.app (by omega) fun H5 l5 pre5 own5 lst5 lo5 => ?_
        ((try simp (maxSteps := 3000000) (dsimp := false) (disch := first | omega | (simp only [len_new, len_put, len_kill]; omega)) only [↓ypre, ypost, ↓reduceIte, Nat.reduceEqDiff, Nat.reduceAdd, Nat.reduceSub, Nat.reduceLeDiff, Nat.zero_add, Nat.sub_zero, ynew, f1, f4, f5, f7, wrap64_in]); try simp only [yback])
        rw [← ev] at lo5
        refine InvQ_go (x.out.length - (i + 1)) (by omega) ⟨(i + 1), (K2.length + 1), false, rfl, by omega, (by first | rfl | exact f1 | (simp only [upd_apply]; rfl) | (show I64 _ = _; congr 1; omega)), (by first | rfl | exact f4 | (simp only [upd_apply]; rfl) | (show I64 _ = _; congr 1; omega)), (by show sl _ _ = _; rw [ev]), (by first | rfl | exact f7 | (simp only [upd_apply]; rfl) | (show I64 _ = _; congr 1; omega)), (pre5 _ hk.1 pp), (lst5 _ _ _ hk.2 lv), lo5, ⟨by have := pre_len pp; omega, by omega⟩⟩
      · have ev : depO x.out vs (i + 1) = depO x.out vs i ++ [vs.getD a.toNat 0] := by
          rw [depO, hq]
          show depO x.out vs i ++ [if b = 0 then 0 else vs.getD a.toNat 0] = _
          rw [if_neg hb0]
        ((try simp (maxSteps := 3000000) (dsimp := false) (disch := first | omega | (simp only [len_new, len_put, len_kill]; omega)) only [↓ypre, ypost, ↓reduceIte, Nat.reduceEqDiff, Nat.reduceAdd, Nat.reduceSub, Nat.reduceLeDiff, Nat.zero_add, Nat.sub_zero, ynew, f1, f4, f5, f7, Nat.add_zero, rd1_of hbK, hvK.2.len, decide_eq_true hlt, hix', r0, r1, ixa, rda, wrap64_in, decide_eq_false hb0]); try simp only [yback])
        refine lo.app (by omega) fun H5 l5 pre5 own5 lst5 lo5 => ?_
        ((try simp (maxSteps := 3000000) (dsimp := false) (disch := first | omega | (simp only [len_new, len_put, len_kill]; omega)) only [↓ypre, ypost, ↓reduceIte, Nat.reduceEqDiff, Nat.reduceAdd, Nat.reduceSub, Nat.reduceLeDiff, Nat.zero_add, Nat.sub_zero, ynew, f1, f4, f5, f7, wrap64_in]); try simp only [yback])
        rw [← ev] at lo5
        refine InvQ_go (x.out.length - (i + 1)) (by omega) ⟨(i + 1), (K2.length + 1), false, rfl, by omega, (by first | rfl | exact f1 | (simp only [upd_apply]; rfl) | (show I64 _ = _; congr 1; omega)), (by first | rfl | exact f4 | (simp only [upd_apply]; rfl) | (show I64 _ = _; congr 1; omega)), (by show sl _ _ = _; rw [ev]), (by first | rfl | exact f7 | (simp only [upd_apply]; rfl) | (show I64 _ = _; congr 1; omega)), (pre5 _ hk.1 pp), (lst5 _ _ _ hk.2 lv), lo5, ⟨by have := pre_len pp; omega, by omega⟩⟩
    have ei : i = x.out.length := by omega
    subst ei
    ((try simp (maxSteps := 3000000) (dsimp := false) (disch := first | omega | (simp only [len_new, len_put, len_kill]; omega)) only [↓ypre, ypost, ↓reduceIte, Nat.reduceEqDiff, Nat.reduceAdd, Nat.reduceSub, Nat.reduceLeDiff, Nat.zero_add, Nat.sub_zero, ynew, f1, f4, f5, f7, rd1_of hbK, hvK.2.len, decide_eq_false hlt]); try simp only [yback])
    exact hQ _ _ (p12.trans pp) (lo.ownR (by have := pre_len p12; omega))
theorem i_DepthsOf {v w : Value} {x : Prg} {h : AH} {Q : Value → AH → Prop} (hv : PrgR h v w x) (hl : SmallP x)
    (hQ : ∀ v' h', h <+: h' → OwnR h h' v' (dpR x).1 → Q (.tuple #[v', I64 (dpR x).2]) h') : WF S 29 [prgV x v w] h Q := by
  refine WF_fn (fn := c29) rfl rfl ?_
  unfold c29
  ((try simp (maxSteps := 3000000) (dsimp := false) (disch := first | omega | (simp only [len_new, len_put, len_kill]; omega)) only [↓ypre, ypost, ↓reduceIte, Nat.reduceEqDiff, Nat.reduceAdd, Nat.reduceSub, Nat.reduceLeDiff, Nat.zero_add, Nat.sub_zero, ynew, prgV, hv.1.one, hv.2.one]); try simp only [yback])
  generalize hH1 : AH.new h _ = H1
  obtain ⟨hb1, p1, n1⟩ := new_facts hH1
  ((try simp (maxSteps := 3000000) (dsimp := false) (disch := first | omega | (simp only [len_new, len_put, len_kill]; omega)) only [↓ypre, ypost, ↓reduceIte, Nat.reduceEqDiff, Nat.reduceAdd, Nat.reduceSub, Nat.reduceLeDiff, Nat.zero_add, Nat.sub_zero, ynew, rdn_of hb1]); try simp only [yback])
  refine i_IsPrg (hv.pre p1) hl fun H2 p2 => ?_
  have hb2 := pre_get p2 hb1
  unfold dpR at hQ
  cases h1 : isPrg x with
  | false =>
    rw [h1, if_neg (by decide)] at hQ
    ((try simp (maxSteps := 3000000) (dsimp := false) (disch := first | omega | (simp only [len_new, len_put, len_kill]; omega)) only [↓ypre, ypost, ↓reduceIte, Nat.reduceEqDiff, Nat.reduceAdd, Nat.reduceSub, Nat.reduceLeDiff, Nat.zero_add, Nat.sub_zero, ynew]); try simp only [yback])
    exact hQ _ _ (p1.trans p2) (.inl ⟨rfl, rfl⟩)
  | true =>
    rw [h1, if_pos rfl] at hQ
    have pf := isPrg_facts h1
    have fp := pf.p
    have fn := pf.n
    have fst := pf.st
    have fout := pf.out
    have p12 := p1.trans p2
    obtain ⟨N, hN⟩ : ∃ N : Nat, x.n = N := ⟨x.n.toNat, by omega⟩
    have hNt : x.n.toNat = N := by omega
    rw [hNt] at hQ
    ((try simp (maxSteps := 3000000) (dsimp := false) (disch := first | omega | (simp only [len_new, len_put, len_kill]; omega)) only [↓ypre, ypost, ↓reduceIte, Nat.reduceEqDiff, Nat.reduceAdd, Nat.reduceSub, Nat.reduceLeDiff, Nat.zero_add, Nat.sub_zero, ynew, rd1_of hb2]); try simp only [yback])
    refine ⟨by omega, ?_⟩
    rw [hNt, zrep_ints]
    generalize hH3 : AH.new H2 _ = H3
    obtain ⟨hb3, p3, n3⟩ := new_facts hH3
    have lv : Lst H3 H2.length (depS x.st N 0) true := hb3
    have sl0 : (Value.slice (some ⟨H2.length, 0, none⟩) N 1) = sl H2.length (depS x.st N 0).length := by rw [depS_len]; rfl
    rw [sl0]
    ((try simp (maxSteps := 3000000) (dsimp := false) (disch := first | omega | (simp only [len_new, len_put, len_kill]; omega)) only [↓ypre, ypost, ↓reduceIte, Nat.reduceEqDiff, Nat.reduceAdd, Nat.reduceSub, Nat.reduceLeDiff, Nat.zero_add, Nat.sub_zero, ynew, rd1_of (pre_get p3 hb2), hv.1.len]); try simp only [yback])
    refine WC_loop_inv (fun m f K1 => ∃ (i : Nat) (kv : Nat) (fu : Bool), m = x.st.length - i ∧ i ≤ x.st.length ∧ f 1 = .pointer (some ⟨h.length, 0, none⟩) ∧ f 4 = sl kv (depS x.st N i).length ∧ f 17 = v ∧ f 18 = I64 x.st.length ∧ f 19 = I64 i ∧ (H2 <+: K1) ∧ (Lst K1 kv (depS x.st N i) fu) ∧ (H2.length ≤ kv)) ?_ (x.st.length - 0) _ _ ⟨0, H2.length, true, rfl, by omega, (by first | rfl | (simp [upd_apply]; done)), (by first | rfl | (simp [upd_apply]; done)), (by first | rfl | (simp [upd_apply]; done)), (by first | rfl | (simp [upd_apply]; done)), (by first | rfl | (simp [upd_apply]; done)), p3, lv, Nat.le_refl _⟩
    rintro m f K1 ⟨i, kv, fu, rfl, hi, f1, f4, f17, f18, f19, pp, lv, hk⟩
    have hbK := pre_get pp hb2
    have ltK := get_lt hbK
    have hvK := hv.pre (p12.trans pp)
    have ltv := lv.lt
    have vl := depS_len (st := x.st) (n := N) (i := i)
    by_cases hlt : (i : Int) < x.st.length
    · have hi' : i < x.st.length := by omega
      obtain ⟨n, off, hix, hrn⟩ := hvK.1.rdw hi'
      obtain ⟨n', off', hix', hrn', hr1⟩ := hvK.1.at hi'
      obtain ⟨a, b, d, hq⟩ := all3 (hvK.1.wid hi')
      have r0 := hr1 0 (by omega)
      have r1 := hr1 1 (by omega)
      rw [hq, cel_3] at hrn
      rw [hq] at r0 r1
      simp only [Nat.add_zero, List.getD_cons_zero, List.getD_cons_succ] at r0 r1
      have s3 := pf.st3 hi' hq
      have hA := depS_in (st := x.st) (n := N) (i := i) (j := a.toNat)
      have hB := depS_in (st := x.st) (n := N) (i := i) (j := b.toNat)
      have ixa := Lst.ix (n := kv) (j := a) (len := (depS x.st N i).length) (by omega)
      have ixb := Lst.ix (n := kv) (j := b) (len := (depS x.st N i).length) (by omega)
      have rda := lv.rd (j := a.toNat) (by omega)
      have rdb := lv.rd (j := b.toNat) (by omega)
      have emx : ∀ a c : Int, (if c > a then c else a) = mxI a c := fun a c => rfl
      have bmx : 0 ≤ mxI ((depS x.st N i).getD a.toNat 0) ((depS x.st N i).getD b.toNat 0) ∧ mxI ((depS x.st N i).getD a.toNat 0) ((depS x.st N i).getD b.toNat 0) ≤ 900 := by unfold mxI; split <;> omega
      have ev : depS x.st N (i + 1) = depS x.st N i ++ [1 + mxI ((depS x.st N i).getD a.toNat 0) ((depS x.st N i).getD b.toNat 0)] := by
        rw [depS, hq]
        rfl
      ((try simp (maxSteps := 3000000) (dsimp := false) (disch := first | omega | (simp only [len_new, len_put, len_kill]; omega)) only [↓ypre, ypost, ↓reduceIte, Nat.reduceEqDiff, Nat.reduceAdd, Nat.reduceSub, Nat.reduceLeDiff, Nat.zero_add, Nat.sub_zero, ynew, f1, f4, f17, f18, f19, Nat.add_zero, rd1_of hbK, hvK.1.len, decide_eq_true hlt, hix, hrn, ixa, ixb, rda, rdb, ↓yWX_mmx, mmx_max, emx, wrap64_in]); try simp only [yback])
      generalize hH4 : AH.new K1 _ = H4
      obtain ⟨hb4, p4, n4⟩ := new_facts hH4
      refine (lv.pre p4).app (by omega) fun H5 l5 pre5 own5 lst5 lv5 => ?_
      ((try simp (maxSteps := 3000000) (dsimp := false) (disch := first | omega | (simp only [len_new, len_put, len_kill]; omega)) only [↓ypre, ypost, ↓reduceIte, Nat.reduceEqDiff, Nat.reduceAdd, Nat.reduceSub, Nat.reduceLeDiff, Nat.zero_add, Nat.sub_zero, ynew, f1, f4, f17, f18, f19, wrap64_in]); try simp only [yback])
      rw [← ev] at lv5
      refine InvQ_go (x.st.length - (i + 1)) (by omega) ⟨(i + 1), (H4.length + 1), false, rfl, by omega, (by first | rfl | exact f1 | (simp only [upd_apply]; rfl) | (show I64 _ = _; congr 1; omega)), (by show sl _ _ = _; rw [ev]), (by first | rfl | exact f17 | (simp only [upd_apply]; rfl) | (show I64 _ = _; congr 1; omega)), (by first | rfl | exact f18 | (simp only [upd_apply]; rfl) | (show I64 _ = _; congr 1; omega)), (by first | rfl | exact f19 | (simp only [upd_apply]; rfl) | (show I64 _ = _; congr 1; omega)), (pre5 _ hk (pp.trans p4)), lv5, (by have := pre_len pp; omega)⟩
    have ei : i = x.st.length := by omega
    subst ei
    ((try simp (maxSteps := 3000000) (dsimp := false) (disch := first | omega | (simp only [len_new, len_put, len_kill]; omega)) only [↓ypre, ypost, ↓reduceIte, Nat.reduceEqDiff, Nat.reduceAdd, Nat.reduceSub, Nat.reduceLeDiff, Nat.zero_add, Nat.sub_zero, ynew, f1, f4, f17, f18, f19, rd1_of hbK, hvK.1.len, hvK.2.len, decide_eq_false hlt]); try simp only [yback])
    have va : ∀ j : Nat, 0 ≤ (depS x.st N x.st.length).getD j 0 ∧ (depS x.st N x.st.length).getD j 0 ≤ x.st.length := fun j => depS_in
    generalize depS x.st N x.st.length = vs at *
    generalize hH6 : AH.new K1 _ = H6
    obtain ⟨hb6, p6, n6⟩ := new_facts hH6
    have lo' : Lst H6 K1.length (depO x.out vs 0) true := hb6
    refine WC_loop_inv (fun m f K2 => ∃ (i : Nat) (ko : Nat) (fo : Bool), m = x.out.length - i ∧ i ≤ x.out.length ∧ f 1 = .pointer (some ⟨h.length, 0, none⟩) ∧ f 4 = sl kv vs.length ∧ f 7 = sl ko (depO x.out vs i).length ∧ f 41 = w ∧ f 42 = I64 x.out.length ∧ f 43 = I64 i ∧ (H2 <+: K2) ∧ (Lst K2 kv vs fu) ∧ (Lst K2 ko (depO x.out vs i) fo) ∧ (H2.length ≤ ko ∧ kv ≠ ko)) ?_ (x.out.length - 0) _ _ ⟨0, K1.length, true, rfl, by omega, (by first | rfl | exact f1 | (simp [upd_apply]; done)), (by first | rfl | exact f4 | (simp [upd_apply]; done)), (by first | rfl | (simp [upd_apply]; done)), (by first | rfl | (simp [upd_apply]; done)), (by first | rfl | (simp [upd_apply]; done)), (by first | rfl | (simp [upd_apply]; done)), pp.trans p6, lv.pre p6, lo', ⟨by have := pre_len pp; omega, by omega⟩⟩
    rintro m f K2 ⟨i, ko, fo, rfl, hi, f1, f4, f7, f41, f42, f43, pp, lv, lo, hk⟩
    have hbK := pre_get pp hb2
    have ltK := get_lt hbK
    have hvK := hv.pre (p12.trans pp)
    have ltv := lv.lt
    have lto := lo.lt
    have ol := depO_len (out := x.out) (D := vs) (i := i)
    by_cases hlt : (i : Int) < x.out.length
    · have hi' : i < x.out.length := by omega
      obtain ⟨n, off, hix, hrn⟩ := hvK.2.rdw hi'
      obtain ⟨n', off', hix', hrn', hr1⟩ := hvK.2.at hi'
      obtain ⟨a, b, hq⟩ := all2 (hvK.2.wid hi')
      have r0 := hr1 0 (by omega)
      have r1 := hr1 1 (by omega)
      rw [hq, cel_2] at hrn
      rw [hq] at r0 r1
      simp only [Nat.add_zero, List.getD_cons_zero, List.getD_cons_succ] at r0 r1
      have s2 := pf.out2 hi' hq
      have ixa := Lst.ix (n := kv) (j := a) (len := vs.length) (by omega)
      have rda := lv.rd (j := a.toNat) (by omega)
      by_cases hb0 : b = 0
      · have ev : depO x.out vs (i + 1) = depO x.out vs i ++ [0] := by
          rw [depO, hq]
          show depO x.out vs i ++ [if b = 0 then 0 else _] = _
          rw [if_pos hb0]
        ((try simp (maxSteps := 3000000) (dsimp := false) (disch := first | omega | (simp only [len_new, len_put, len_kill]; omega)) only [↓ypre, ypost, ↓reduceIte, Nat.reduceEqDiff, Nat.reduceAdd, Nat.reduceSub, Nat.reduceLeDiff, Nat.zero_add, Nat.sub_zero, ynew, f1, f4, f7, f41, f42, f43, Nat.add_zero, rd1_of hbK, hvK.2.len, decide_eq_true hlt, hix, hrn, ixa, rda, wrap64_in, decide_eq_true hb0]); try simp only [yback])
        generalize hH7 : AH.new K2 _ = H7
        obtain ⟨hb7, p7, n7⟩ := new_facts hH7
        refine (lo.pre p7).app (by omega) fun H5 l5 pre5 own5 lst5 lo5 => ?_
        ((try simp (maxSteps := 3000000) (dsimp := false) (disch := first | omega | (simp only [len_new, len_put, len_kill]; omega)) only [↓ypre, ypost, ↓reduceIte, Nat.reduceEqDiff, Nat.reduceAdd, Nat.reduceSub, Nat.reduceLeDiff, Nat.zero_add, Nat.sub_zero, ynew, f1, f4, f7, f41, f42, f43, wrap64_in]); try simp only [yback])
        rw [← ev] at lo5
        refine InvQ_go (x.out.length - (i + 1)) (by omega) ⟨(i + 1), (H7.length + 1), false, rfl, by omega, (by first | rfl | exact f1 | (simp only [upd_apply]; rfl) | (show I64 _ = _; congr 1; omega)), (by first | rfl | exact f4 | (simp only [upd_apply]; rfl) | (show I64 _ = _; congr 1; omega)), (by show sl _ _ = _; rw [ev]), (by first | rfl | exact f41 | (simp only [upd_apply]; rfl) | (show I64 _ = _; congr 1; omega)), (by first | rfl | exact f42 | (simp only [upd_apply]; rfl) | (show I64 _ = _; congr 1; omega)), (by first | rfl | exact f43 | (simp only [upd_apply]; rfl) | (show I64 _ = _; congr 1; omega)), (pre5 _ hk.1 (pp.trans p7)), (lst5 _ _ _ hk.2 (lv.pre p7)), lo5, ⟨by have := pre_len pp; omega, by omega⟩⟩
      · have ev : depO x.out vs (i + 1) = depO x.out vs i ++ [vs.getD a.toNat 0] := by
          rw [depO, hq]
          show depO x.out vs i ++ [if b = 0 then 0 else vs.getD a.toNat 0] = _
          rw [if_neg hb0]
        ((try simp (maxSteps := 3000000) (dsimp := false) (disch := first | omega | (simp only [len_new, len_put, len_kill]; omega)) only [↓ypre, ypost, ↓reduceIte, Nat.reduceEqDiff, Nat.reduceAdd, Nat.reduceSub, Nat.reduceLeDiff, Nat.zero_add, Nat.sub_zero, ynew, f1, f4, f7, f41, f42, f43, Nat.add_zero, rd1_of hbK, hvK.2.len, decide_eq_true hlt, hix, hrn, ixa, rda, wrap64_in, decide_eq_false hb0]); try simp only [yback])
        generalize hH7 : AH.new K2 _ = H7
        obtain ⟨hb7, p7, n7⟩ := new_facts hH7
        refine (lo.pre p7).app (by omega) fun H5 l5 pre5 own5 lst5 lo5 => ?_
        ((try simp (maxSteps := 3000000) (dsimp := false) (disch := first | omega | (simp only [len_new, len_put, len_kill]; omega)) only [↓ypre, ypost, ↓reduceIte, Nat.reduceEqDiff, Nat.reduceAdd, Nat.reduceSub, Nat.reduceLeDiff, Nat.zero_add, Nat.sub_zero, ynew, f1, f4, f7, f41, f42, f43, wrap64_in]); try simp only [yback])
        rw [← ev] at lo5
        refine InvQ_go (x.out.length - (i + 1)) (by omega) ⟨(i + 1), (H7.length + 1), false, rfl, by omega, (by first | rfl | exact f1 | (simp only [upd_apply]; rfl) | (show I64 _ = _; congr 1; omega)), (by first | rfl | exact f4 | (simp only [upd_apply]; rfl) | (show I64 _ = _; congr 1; omega)), (by show sl _ _ = _; rw [ev]), (by first | rfl | exact f41 | (simp only [upd_apply]; rfl) | (show I64 _ = _; congr 1; omega)), (by first | rfl | exact f42 | (simp only [upd_apply]; rfl) | (show I64 _ = _; congr 1; omega)), (by first | rfl | exact f43 | (simp only [upd_apply]; rfl) | (show I64 _ = _; congr 1; omega)), (pre5 _ hk.1 (pp.trans p7)), (lst5 _ _ _ hk.2 (lv.pre p7)), lo5, ⟨by have := pre_len pp; omega, by omega⟩⟩
    have ei : i = x.out.length := by omega
    subst ei
    ((try simp (maxSteps := 3000000) (dsimp := false) (disch := first | omega | (simp only [len_new, len_put, len_kill]; omega)) only [↓ypre, ypost, ↓reduceIte, Nat.reduceEqDiff, Nat.reduceAdd, Nat.reduceSub, Nat.reduceLeDiff, Nat.zero_add, Nat.sub_zero, ynew, f1, f4, f7, f41, f42, f43, rd1_of hbK, hvK.2.len, decide_eq_false hlt]); try simp only [yback])
    exact hQ _ _ (p12.trans pp) (lo.ownR (by have := pre_len p12; omega))
end Go.Proofs.Ytilpnbejpndgpaa.X
