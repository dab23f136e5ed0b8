/- Texts of one claim, put together by merge.py: XP3. -/
import Derived.Test.YtilpnbejpndgpaaM4
import Derived.Test.YtilpnbejpndgpaaM5
/- Lists under way in known blocks; what programs make: RunProgram of both sides. -/
set_option linter.unusedVariables false
set_option linter.unusedSimpArgs false
set_option maxRecDepth 20000
set_option maxHeartbeats 4000000
namespace Go.Proofs.Ytilpnbejpndgpaa.X
open Go Go.RowKit

theorem map_get {l : List Int} {j : Nat} (hj : j < l.length) : (l.map (Value.int .i64))[j]? = some (I64 (l.getD j 0)) := by
  simp [List.getD_eq_getElem?_getD, hj]
theorem map_set {l : List Int} {j : Nat} {x : Int} (hj : j < l.length) : splice (l.map (Value.int .i64)) j [I64 x] = (l.set j x).map (Value.int .i64) := by
  rw [splice_set (by simpa using hj)]
  simp [List.map_set]
/-- A list in a block of one's own that is known. -/
def Lst (h : AH) (n : Nat) (l : List Int) (full : Bool) : Prop := h.get n = some ⟨l.map (Value.int .i64), 2, false, full⟩
def sl (n len : Nat) : Value := .slice (some ⟨n, 0, none⟩) len 1
section
variable {h h' : AH} {n : Nat} {l : List Int} {full : Bool}
theorem Lst.pre (o : Lst h n l full) (p : h <+: h') : Lst h' n l full := pre_get p o
theorem Lst.lt (o : Lst h n l full) : n < h.length := get_lt o
theorem Lst.own (o : Lst h n l full) : OwnB h n (l.map (Value.int .i64)) full := ⟨_, o⟩
theorem Lst.put_ne {m : Nat} {b : Blk} (o : Lst h n l full) (e : m ≠ n) : Lst (h.put m b) n l full := by
  unfold Lst
  rw [get_put_ne e]
  exact o
theorem Lst.ix {j : Int} {len : Nat} (h0 : 0 ≤ j ∧ j < len) : ixsV 1 (sl n len) (I64 j) = some (.pointer (some ⟨n, j.toNat, none⟩)) := by
  unfold sl
  rw [ixsV_some, if_pos ⟨h0.1, h0.2, rfl⟩]
  simp
theorem Lst.rd {j : Nat} (o : Lst h n l full) (hj : j < l.length) : h.rd1 n j = some (I64 (l.getD j 0)) := by
  rw [rd1_of o]
  exact map_get hj
theorem Lst.wr {j : Nat} {x : Int} (o : Lst h n l full) (hj : j < l.length) : ∃ h', h.wr n j [I64 x] = some h' ∧ h' = h.put n ⟨(l.set j x).map (Value.int .i64), 2, false, full⟩ ∧ Lst h' n (l.set j x) full := by
  refine ⟨_, ?_, rfl, get_put_same o.lt⟩
  rw [wr_of o, if_pos ⟨rfl, by simp only [List.length_map, List.length_singleton]; omega⟩, map_set hj]
theorem Lst.ints (o : Lst h n l full) : Ints h (sl n l.length) l := Ints.own o rfl
theorem Lst.ownR {h0 : AH} (o : Lst h n l full) (hn : h0.length ≤ n) : OwnR h0 h (sl n l.length) l := OwnR.of hn rfl o
theorem Lst.app {H : AH} {x : Int} {e' : TypeId} {ro fu : Bool} (o : Lst H n l full) (hl : (l.length : Int) ≤ 1048576) {Q : Value → AH → Prop}
    (hQ : ∀ H', H'.length = H.length + 2 → (∀ h0 : AH, h0.length ≤ n → h0 <+: H → h0 <+: H') → (∀ m c f, m ≠ n → OwnB H m c f → OwnB H' m c f) → (∀ m c f, m ≠ n → Lst H m c f → Lst H' m c f) → Lst H' (H.length + 1) (l ++ [x]) false → Q (sl (H.length + 1) (l ++ [x]).length) H') :
    OQ (appV 2 1 8 (sl n l.length) (.slice (some ⟨H.length, 0, none⟩) 1 1) (H.new ⟨[I64 x], e', ro, fu⟩)) Q := by
  have hn : (H.new ⟨[I64 x], e', ro, fu⟩).rdn H.length 0 1 = some [I64 x] := by rw [rdn_new_same]; rfl
  have hk : (H.new ⟨[I64 x], e', ro, fu⟩).get n = some ⟨l.map (Value.int .i64), 2, false, full⟩ := get_new_any o
  have hkb := o.lt
  unfold sl
  rw [app_own hk (by simp) hn (by omega), OQ_some]
  have := hQ (((H.new ⟨[I64 x], e', ro, fu⟩).kill n).new ⟨l.map (Value.int .i64) ++ [I64 x], 2, false, false⟩) (by rw [len_new, len_kill, len_new]) (fun h0 q p => pre_new (pre_kill (pre_new p) q))
    (fun m c f hm o => (o.new.kill_ne (fun e => hm e.symm)).new) (fun m c f hm o => get_new_any (by rw [get_kill_ne (fun e => hm e.symm)]; exact get_new_any o)) (by unfold Lst; rw [get_new_eq (by rw [len_kill, len_new])]; simp)
  unfold sl at this
  rw [len_new]
  rw [List.length_append, List.length_singleton] at this
  exact this
end
theorem s_OwnT {v : Value} {ns : List Int} {h : AH} {Q : Value → AH → Prop} (hv : Ints h v ns) (h0 : 0 < ns.length) (hl : (ns.length : Int) ≤ 1048576)
    (hQ : ∀ n h', h.length ≤ n → h <+: h' → Lst h' n ns false → Q (sl n ns.length) h') : WF S 113 [v] h Q := by
  refine WF_fn (fn := c113) rfl rfl ?_
  unfold c113
  obtain ⟨n, off, rfl, hr⟩ := hv.vals.rdn (by simpa using h0)
  try simp (maxSteps := 3000000) (disch := first | omega | (simp only [len_new, len_put, len_kill]; omega)) only [↓xpre, xpost, ↓reduceIte, Nat.reduceEqDiff, Nat.reduceAdd, Nat.reduceSub, Nat.reduceLeDiff, Nat.zero_add, Nat.sub_zero, fillL, zrep]
  rw [List.length_map] at hr ⊢
  rw [app_zero get_new_same (show AH.rdn (AH.new h _) n off ns.length = _ by rw [rdn_eq] at hr ⊢; obtain ⟨b, hb, hc⟩ := Option.bind_eq_some_iff.1 hr; rw [get_new_any hb]; exact hc) h0 (by omega)]
  try simp (maxSteps := 3000000) (disch := first | omega | (simp only [len_new, len_put, len_kill]; omega)) only [↓xpre, xpost, ↓reduceIte, Nat.reduceEqDiff, Nat.reduceAdd, Nat.reduceSub, Nat.reduceLeDiff, Nat.zero_add, Nat.sub_zero]
  exact hQ _ _ (by rw [len_new]; omega) (pre_new (pre_kill (pre_new (List.prefix_refl _)) (Nat.le_refl _))) (get_new_eq (by rw [len_kill]))
theorem i_CloneT {v : Value} {ns : List Int} {h : AH} {Q : Value → AH → Prop} (hv : Ints h v ns) (h0 : 0 < ns.length) (hl : (ns.length : Int) ≤ 1048576)
    (hQ : ∀ n h', h.length ≤ n → h <+: h' → Lst h' n ns false → Q (sl n ns.length) h') : WF S 126 [v] h Q := by
  refine WF_fn (fn := c126) rfl rfl ?_
  unfold c126
  obtain ⟨n, off, rfl, hr⟩ := hv.vals.rdn (by simpa using h0)
  try simp (maxSteps := 3000000) (disch := first | omega | (simp only [len_new, len_put, len_kill]; omega)) only [↓xpre, xpost, ↓reduceIte, Nat.reduceEqDiff, Nat.reduceAdd, Nat.reduceSub, Nat.reduceLeDiff, Nat.zero_add, Nat.sub_zero, ↓WX_isnil, isnilV_some, fillL, zrep]
  rw [List.length_map] at hr ⊢
  rw [app_zero get_new_same (show AH.rdn (AH.new h _) n off ns.length = _ by rw [rdn_eq] at hr ⊢; obtain ⟨b, hb, hc⟩ := Option.bind_eq_some_iff.1 hr; rw [get_new_any hb]; exact hc) h0 (by omega)]
  try simp (maxSteps := 3000000) (disch := first | omega | (simp only [len_new, len_put, len_kill]; omega)) only [↓xpre, xpost, ↓reduceIte, Nat.reduceEqDiff, Nat.reduceAdd, Nat.reduceSub, Nat.reduceLeDiff, Nat.zero_add, Nat.sub_zero]
  exact hQ _ _ (by rw [len_new]; omega) (pre_new (pre_kill (pre_new (List.prefix_refl _)) (Nat.le_refl _))) (get_new_eq (by rw [len_kill]))

/-! ### What programs make -/
def nq (q : List Int) (i : Nat) : Nat := (q.getD i 0).toNat
def valS (p : Int) (st : List (List Int)) (ns : List Int) : Nat → List Int
  | 0 => ns
  | i + 1 => valS p st ns i ++ [((valS p st ns i).getD (nq (st.getD i []) 0) 0 + (st.getD i []).getD 2 0 * (valS p st ns i).getD (nq (st.getD i []) 1) 0).tmod p]
theorem valS_len {p : Int} {st : List (List Int)} {ns : List Int} : ∀ {i : Nat}, (valS p st ns i).length = ns.length + i
  | 0 => rfl
  | i + 1 => by simp [valS, valS_len (i := i)]; omega
def outS (p : Int) (out : List (List Int)) (vs : List Int) : Nat → List Int
  | 0 => []
  | i + 1 => outS p out vs i ++ [((out.getD i []).getD 1 0 * vs.getD (nq (out.getD i []) 0) 0).tmod p]
theorem outS_len {p : Int} {out : List (List Int)} {vs : List Int} : ∀ {i : Nat}, (outS p out vs i).length = i
  | 0 => rfl
  | i + 1 => by simp [outS, outS_len (i := i)]
def runP (x : Prg) (ns : List Int) : List Int := outS x.p x.out (valS x.p x.st ns x.st.length) x.out.length
theorem runP_len {x : Prg} {ns : List Int} : (runP x ns).length = x.out.length := outS_len
theorem allIn_app {p : Int} {l : List Int} {x : Int} (h : allIn p l = true) (hx : 0 ≤ x ∧ x < p) : allIn p (l ++ [x]) = true := by
  unfold allIn at h ⊢
  rw [List.all_append, h]
  simp [hx]
/-- The facts of a program. -/
structure PrgF (x : Prg) : Prop where
  p : 2 ≤ x.p ∧ x.p ≤ 5
  n : 1 ≤ x.n ∧ x.n ≤ 30
  st : x.st.length ≤ 900
  out : 1 ≤ x.out.length ∧ x.out.length ≤ 30
  step : ∀ i, i < x.st.length → okStep x.p (x.n + (i : Nat)) (x.st.getD i []) = true
  outs : ∀ i, i < x.out.length → okOut x.p (x.n + x.st.length) (x.out.getD i []) = true
theorem isPrg_facts {x : Prg} (h : isPrg x = true) : PrgF x := by
  unfold isPrg headP at h
  simp only [Bool.and_eq_true, decide_eq_true_eq] at h
  obtain ⟨⟨⟨h1, h2, h3, h4, h5, h6⟩, h7⟩, h8⟩ := h
  exact ⟨isP_in h1, ⟨h2, h3⟩, h4, ⟨h5, h6⟩, fun i hi => allN_at (f := fun i : Nat => okStep x.p (x.n + i) (x.st.getD i [])) h7 hi, fun i hi => allN_at (f := fun i : Nat => okOut x.p (x.n + x.st.length) (x.out.getD i [])) h8 hi⟩
theorem PrgF.st3 {x : Prg} (f : PrgF x) {i : Nat} {a b d : Int} (hi : i < x.st.length) (hq : x.st.getD i [] = [a, b, d]) : 0 ≤ a ∧ a < x.n + i ∧ 0 ≤ b ∧ b < x.n + i ∧ a ≠ b ∧ 1 ≤ d ∧ d < x.p := by
  have := f.step i hi
  rw [hq, okStep_3, decide_eq_true_eq] at this
  exact this
theorem PrgF.out2 {x : Prg} (f : PrgF x) {i : Nat} {a b : Int} (hi : i < x.out.length) (hq : x.out.getD i [] = [a, b]) : 0 ≤ a ∧ a < x.n + x.st.length ∧ 0 ≤ b ∧ b < x.p ∧ ¬ (b = 0 ∧ a ≠ 0) := by
  have := f.outs i hi
  rw [hq, okOut_2, decide_eq_true_eq] at this
  exact this
theorem valS_in {x : Prg} {h : AH} {v w : Value} (f : PrgF x) (hv : PrgR h v w x) {ns : List Int} (hn : allIn x.p ns = true) (hl : (ns.length : Int) = x.n) : ∀ {i : Nat}, i ≤ x.st.length → allIn x.p (valS x.p x.st ns i) = true
  | 0, _ => hn
  | i + 1, hi => by
    have ih := valS_in f hv hn hl (i := i) (by omega)
    obtain ⟨a, b, d, hq⟩ := all3 (hv.1.wid (show i < x.st.length by omega))
    have s3 := f.st3 (by omega) hq
    have fp := f.p
    refine allIn_app ih ?_
    rw [hq]
    have hA := allIn_iff.1 ih a.toNat (by rw [valS_len]; omega)
    have hB := allIn_iff.1 ih b.toNat (by rw [valS_len]; omega)
    have m := mul_in (A := 4) (B := 4) (a := d) (b := (valS x.p x.st ns i).getD b.toNat 0) (by omega) (by omega)
    exact tmod_nn (by show 0 ≤ (valS x.p x.st ns i).getD a.toNat 0 + d * (valS x.p x.st ns i).getD b.toNat 0; omega) (by omega)

theorem s_run {v w u : Value} {x : Prg} {ns : List Int} {h : AH} {Q : Value → AH → Prop} (hv : PrgR h v w x) (pf : PrgF x) (hu : Ints h u ns) (hn : allIn x.p ns = true) (hl : (ns.length : Int) = x.n)
    (hQ : ∀ n full h', h.length ≤ n → h <+: h' → Lst h' n (runP x ns) full → Q (sl n (runP x ns).length) h') : WF S 84 [prgV x v w, u] h Q := by
  refine WF_fn (fn := c84) rfl rfl ?_
  unfold c84
  have fp := pf.p
  have fn := pf.n
  have fst := pf.st
  have fout := pf.out
  ((try simp (maxSteps := 3000000) (dsimp := false) (disch := first | omega | (simp only [len_new, len_put, len_kill]; omega)) only [↓ypre, ypost, ↓reduceIte, Nat.reduceEqDiff, Nat.reduceAdd, Nat.reduceSub, Nat.reduceLeDiff, Nat.zero_add, Nat.sub_zero, ynew, prgV, hv.1.one, hv.2.one]); try simp only [yback])
  generalize hH1 : AH.new h _ = H1
  obtain ⟨hb1, p1, n1⟩ := new_facts hH1
  refine s_OwnT (hu.pre p1) (by omega) (by omega) fun kv H2 hkv p2 lv => ?_
  have hb2 := pre_get p2 hb1
  have ltv := lv.lt
  ((try simp (maxSteps := 3000000) (dsimp := false) (disch := first | omega | (simp only [len_new, len_put, len_kill]; omega)) only [↓ypre, ypost, ↓reduceIte, Nat.reduceEqDiff, Nat.reduceAdd, Nat.reduceSub, Nat.reduceLeDiff, Nat.zero_add, Nat.sub_zero, ynew, rd1_of hb2, hv.1.len]); try simp only [yback])
  generalize hH3 : AH.new H2 _ = H3
  obtain ⟨hb3, p3, n3⟩ := new_facts hH3
  have lo : Lst H3 H2.length [] true := hb3
  refine WC_loop_inv (fun m f K1 => ∃ (i : Nat) (kv : Nat) (fu : Bool), m = x.st.length - i ∧ i ≤ x.st.length ∧ f 2 = .pointer (some ⟨h.length, 0, none⟩) ∧ f 5 = sl kv (valS x.p x.st ns i).length ∧ f 6 = sl H2.length 0 ∧ f 7 = I64 i ∧ (H1 <+: K1) ∧ (Lst K1 kv (valS x.p x.st ns i) fu) ∧ (Lst K1 H2.length [] true) ∧ (H1.length ≤ kv ∧ kv ≠ H2.length)) ?_ (x.st.length - 0) _ _ ⟨0, kv, false, rfl, by omega, (by first | rfl | (simp [upd_apply]; done)), (by first | rfl | (simp [upd_apply]; done)), (by first | rfl | (simp [upd_apply]; done)), (by first | rfl | (simp [upd_apply]; done)), p2.trans p3, lv.pre p3, lo, ⟨hkv, by omega⟩⟩
  rintro m f K1 ⟨i, kv, fu, rfl, hi, f2, f5, f6, f7, pp, lv, lo, hk⟩
  have hbK := pre_get pp hb1
  have ltK := get_lt hbK
  have hvK := hv.pre (p1.trans pp)
  have ltv := lv.lt
  have vl := valS_len (p := x.p) (st := x.st) (ns := ns) (i := i)
  by_cases hlt : (i : Int) < x.st.length
  · have hi' : i < x.st.length := by omega
    obtain ⟨n, off, hix, hrn⟩ := hvK.1.rdw hi'
    obtain ⟨a, b, d, hq⟩ := all3 (hvK.1.wid hi')
    rw [hq, cel_3] at hrn
    have s3 := pf.st3 hi' hq
    have va := valS_in pf hv hn hl (i := i) (by omega)
    have hA := allIn_iff.1 va a.toNat (by omega)
    have hB := allIn_iff.1 va b.toNat (by omega)
    have m := mul_in (A := 4) (B := 4) (a := d) (b := (valS x.p x.st ns i).getD b.toNat 0) (by omega) (by omega)
    have ixa := Lst.ix (n := kv) (j := a) (len := (valS x.p x.st ns i).length) (by omega)
    have ixb := Lst.ix (n := kv) (j := b) (len := (valS x.p x.st ns i).length) (by omega)
    have rda := lv.rd (j := a.toNat) (by omega)
    have rdb := lv.rd (j := b.toNat) (by omega)
    have ev : valS x.p x.st ns (i + 1) = valS x.p x.st ns i ++ [((valS x.p x.st ns i).getD a.toNat 0 + d * (valS x.p x.st ns i).getD b.toNat 0).tmod x.p] := by
      rw [valS, hq]
      rfl
    ((try simp (maxSteps := 3000000) (dsimp := false) (disch := first | omega | (simp only [len_new, len_put, len_kill]; omega)) only [↓ypre, ypost, ↓reduceIte, Nat.reduceEqDiff, Nat.reduceAdd, Nat.reduceSub, Nat.reduceLeDiff, Nat.zero_add, Nat.sub_zero, ynew, f2, f5, f6, f7, rd1_of hbK, hvK.1.len, decide_eq_true hlt, hix, hrn, ixa, ixb, rda, rdb, wrap64_in, bin_rem]); try simp only [yback])
    generalize hH4 : AH.new K1 _ = H4
    obtain ⟨hb4, p4, n4⟩ := new_facts hH4
    refine (lv.pre p4).app (by omega) fun H5 l5 pre5 own5 lst5 lv5 => ?_
    ((try simp (maxSteps := 3000000) (dsimp := false) (disch := first | omega | (simp only [len_new, len_put, len_kill]; omega)) only [↓ypre, ypost, ↓reduceIte, Nat.reduceEqDiff, Nat.reduceAdd, Nat.reduceSub, Nat.reduceLeDiff, Nat.zero_add, Nat.sub_zero, ynew, f2, f5, f6, f7, wrap64_in]); try simp only [yback])
    rw [← ev] at lv5
    refine InvQ_go (x.st.length - (i + 1)) (by omega) ⟨(i + 1), (H4.length + 1), false, rfl, by omega, (by first | rfl | exact f2 | (simp only [upd_apply]; rfl) | (show I64 _ = _; congr 1; omega)), (by show sl _ _ = _; rw [ev]), (by first | rfl | exact f6 | (simp only [upd_apply]; rfl) | (show I64 _ = _; congr 1; omega)), (by first | rfl | exact f7 | (simp only [upd_apply]; rfl) | (show I64 _ = _; congr 1; omega)), (pre5 _ hk.1 (pp.trans p4)), lv5, (lst5 _ _ _ (fun e => hk.2 e.symm) (lo.pre p4)), ⟨by have := pre_len pp; omega, by have := lo.lt; omega⟩⟩
  have ei : i = x.st.length := by omega
  subst ei
  ((try simp (maxSteps := 3000000) (dsimp := false) (disch := first | omega | (simp only [len_new, len_put, len_kill]; omega)) only [↓ypre, ypost, ↓reduceIte, Nat.reduceEqDiff, Nat.reduceAdd, Nat.reduceSub, Nat.reduceLeDiff, Nat.zero_add, Nat.sub_zero, ynew, f2, f5, f6, f7, rd1_of hbK, hvK.1.len, hvK.2.len, decide_eq_false hlt]); try simp only [yback])
  have va := valS_in pf hv hn hl (i := x.st.length) (Nat.le_refl _)
  unfold runP at hQ
  generalize valS x.p x.st ns x.st.length = vs at *
  have lo' : Lst K1 H2.length (outS x.p x.out vs 0) true := lo
  refine WC_loop_inv (fun m f K2 => ∃ (i : Nat) (ko : Nat) (fo : Bool), m = x.out.length - i ∧ i ≤ x.out.length ∧ f 2 = .pointer (some ⟨h.length, 0, none⟩) ∧ f 5 = sl kv vs.length ∧ f 6 = sl ko (outS x.p x.out vs i).length ∧ f 9 = I64 i ∧ (H1 <+: K2) ∧ (Lst K2 kv vs fu) ∧ (Lst K2 ko (outS x.p x.out vs i) fo) ∧ (H1.length ≤ ko ∧ kv ≠ ko)) ?_ (x.out.length - 0) _ _ ⟨0, H2.length, true, rfl, by omega, (by first | rfl | exact f2 | (simp [upd_apply]; done)), (by first | rfl | exact f5 | (simp [upd_apply]; done)), (by first | rfl | exact f6 | (simp [upd_apply]; done)), (by first | rfl | (simp [upd_apply]; done)), pp, lv, lo', ⟨by have := pre_len p2; omega, hk.2⟩⟩
  rintro m f K2 ⟨i, ko, fo, rfl, hi, f2, f5, f6, f9, pp, lv, lo, hk⟩
  have hbK := pre_get pp hb1
  have ltK := get_lt hbK
  have hvK := hv.pre (p1.trans pp)
  have ltv := lv.lt
  have lto := lo.lt
  have ol := outS_len (p := x.p) (out := x.out) (vs := vs) (i := i)
  by_cases hlt : (i : Int) < x.out.length
  · have hi' : i < x.out.length := by omega
    obtain ⟨n, off, hix, hrn⟩ := hvK.2.rdw hi'
    obtain ⟨n', off', hix', hrn', hr1⟩ := hvK.2.at hi'
    obtain ⟨a, b, hq⟩ := all2 (hvK.2.wid hi')
    have r0 := hr1 0 (by omega)
    have r1 := hr1 1 (by omega)
    rw [hq, cel_2] at hrn
    rw [hq] at r0 r1
    simp only [Nat.add_zero, List.getD_cons_zero, List.getD_cons_succ] at r0 r1
    have s2 := pf.out2 hi' hq
    have hA := allIn_iff.1 va a.toNat (by omega)
    have m := mul_in (A := 4) (B := 4) (a := b) (b := vs.getD a.toNat 0) (by omega) (by omega)
    have ixa := Lst.ix (n := kv) (j := a) (len := vs.length) (by omega)
    have rda := lv.rd (j := a.toNat) (by omega)
    have ev : outS x.p x.out vs (i + 1) = outS x.p x.out vs i ++ [(b * vs.getD a.toNat 0).tmod x.p] := by
      rw [outS, hq]
      rfl
    ((try simp (maxSteps := 3000000) (dsimp := false) (disch := first | omega | (simp only [len_new, len_put, len_kill]; omega)) only [↓ypre, ypost, ↓reduceIte, Nat.reduceEqDiff, Nat.reduceAdd, Nat.reduceSub, Nat.reduceLeDiff, Nat.zero_add, Nat.sub_zero, ynew, f2, f5, f6, f9, Nat.add_zero, rd1_of hbK, hvK.2.len, decide_eq_true hlt, hix', r0, r1, ixa, rda, wrap64_in, bin_rem]); try simp only [yback])
    refine lo.app (by omega) fun H5 l5 pre5 own5 lst5 lo5 => ?_
    ((try simp (maxSteps := 3000000) (dsimp := false) (disch := first | omega | (simp only [len_new, len_put, len_kill]; omega)) only [↓ypre, ypost, ↓reduceIte, Nat.reduceEqDiff, Nat.reduceAdd, Nat.reduceSub, Nat.reduceLeDiff, Nat.zero_add, Nat.sub_zero, ynew, f2, f5, f6, f9, wrap64_in]); try simp only [yback])
    rw [← ev] at lo5
    refine InvQ_go (x.out.length - (i + 1)) (by omega) ⟨(i + 1), (K2.length + 1), false, rfl, by omega, (by first | rfl | exact f2 | (simp only [upd_apply]; rfl) | (show I64 _ = _; congr 1; omega)), (by first | rfl | exact f5 | (simp only [upd_apply]; rfl) | (show I64 _ = _; congr 1; omega)), (by show sl _ _ = _; rw [ev]), (by first | rfl | exact f9 | (simp only [upd_apply]; rfl) | (show I64 _ = _; congr 1; omega)), (pre5 _ hk.1 pp), (lst5 _ _ _ hk.2 lv), lo5, ⟨by have := pre_len pp; omega, by omega⟩⟩
  have ei : i = x.out.length := by omega
  subst ei
  ((try simp (maxSteps := 3000000) (dsimp := false) (disch := first | omega | (simp only [len_new, len_put, len_kill]; omega)) only [↓ypre, ypost, ↓reduceIte, Nat.reduceEqDiff, Nat.reduceAdd, Nat.reduceSub, Nat.reduceLeDiff, Nat.zero_add, Nat.sub_zero, ynew, f2, f5, f6, f9, rd1_of hbK, hvK.2.len, decide_eq_false hlt]); try simp only [yback])
  exact hQ ko fo _ (by omega) (p1.trans pp) lo
theorem i_run {v w u : Value} {x : Prg} {ns : List Int} {h : AH} {Q : Value → AH → Prop} (hv : PrgR h v w x) (pf : PrgF x) (hu : Ints h u ns) (hn : allIn x.p ns = true) (hl : (ns.length : Int) = x.n)
    (hQ : ∀ n full h', h.length ≤ n → h <+: h' → Lst h' n (runP x ns) full → Q (sl n (runP x ns).length) h') : WF S 86 [prgV x v w, u] h Q := by
  refine WF_fn (fn := c86) rfl rfl ?_
  unfold c86
  have fp := pf.p
  have fn := pf.n
  have fst := pf.st
  have fout := pf.out
  ((try simp (maxSteps := 3000000) (dsimp := false) (disch := first | omega | (simp only [len_new, len_put, len_kill]; omega)) only [↓ypre, ypost, ↓reduceIte, Nat.reduceEqDiff, Nat.reduceAdd, Nat.reduceSub, Nat.reduceLeDiff, Nat.zero_add, Nat.sub_zero, ynew, prgV, hv.1.one, hv.2.one]); try simp only [yback])
  generalize hH1 : AH.new h _ = H1
  obtain ⟨hb1, p1, n1⟩ := new_facts hH1
  refine i_CloneT (hu.pre p1) (by omega) (by omega) fun kv H2 hkv p2 lv => ?_
  have hb2 := pre_get p2 hb1
  have ltv := lv.lt
  ((try simp (maxSteps := 3000000) (dsimp := false) (disch := first | omega | (simp only [len_new, len_put, len_kill]; omega)) only [↓ypre, ypost, ↓reduceIte, Nat.reduceEqDiff, Nat.reduceAdd, Nat.reduceSub, Nat.reduceLeDiff, Nat.zero_add, Nat.sub_zero, ynew, rd1_of hb2, hv.1.len]); try simp only [yback])
  refine WC_loop_inv (fun m f K1 => ∃ (i : Nat) (kv : Nat) (fu : Bool), m = x.st.length - i ∧ i ≤ x.st.length ∧ f 2 = .pointer (some ⟨h.length, 0, none⟩) ∧ f 5 = sl kv (valS x.p x.st ns i).length ∧ f 14 = v ∧ f 15 = I64 x.st.length ∧ f 16 = I64 i ∧ (H1 <+: K1) ∧ (Lst K1 kv (valS x.p x.st ns i) fu) ∧ (H1.length ≤ kv)) ?_ (x.st.length - 0) _ _ ⟨0, kv, false, rfl, by omega, (by first | rfl | (simp [upd_apply]; done)), (by first | rfl | (simp [upd_apply]; done)), (by first | rfl | (simp [upd_apply]; done)), (by first | rfl | (simp [upd_apply]; done)), (by first | rfl | (simp [upd_apply]; done)), p2, lv, hkv⟩
  rintro m f K1 ⟨i, kv, fu, rfl, hi, f2, f5, f14, f15, f16, pp, lv, hk⟩
  have hbK := pre_get pp hb1
  have ltK := get_lt hbK
  have hvK := hv.pre (p1.trans pp)
  have ltv := lv.lt
  have vl := valS_len (p := x.p) (st := x.st) (ns := ns) (i := i)
  by_cases hlt : (i : Int) < x.st.length
  · have hi' : i < x.st.length := by omega
    obtain ⟨n, off, hix, hrn⟩ := hvK.1.rdw hi'
    obtain ⟨a, b, d, hq⟩ := all3 (hvK.1.wid hi')
    rw [hq, cel_3] at hrn
    have s3 := pf.st3 hi' hq
    have va := valS_in pf hv hn hl (i := i) (by omega)
    have hA := allIn_iff.1 va a.toNat (by omega)
    have hB := allIn_iff.1 va b.toNat (by omega)
    have m := mul_in (A := 4) (B := 4) (a := d) (b := (valS x.p x.st ns i).getD b.toNat 0) (by omega) (by omega)
    have ixa := Lst.ix (n := kv) (j := a) (len := (valS x.p x.st ns i).length) (by omega)
    have ixb := Lst.ix (n := kv) (j := b) (len := (valS x.p x.st ns i).length) (by omega)
    have rda := lv.rd (j := a.toNat) (by omega)
    have rdb := lv.rd (j := b.toNat) (by omega)
    have ev : valS x.p x.st ns (i + 1) = valS x.p x.st ns i ++ [((valS x.p x.st ns i).getD a.toNat 0 + d * (valS x.p x.st ns i).getD b.toNat 0).tmod x.p] := by
      rw [valS, hq]
      rfl
    ((try simp (maxSteps := 3000000) (dsimp := false) (disch := first | omega | (simp only [len_new, len_put, len_kill]; omega)) only [↓ypre, ypost, ↓reduceIte, Nat.reduceEqDiff, Nat.reduceAdd, Nat.reduceSub, Nat.reduceLeDiff, Nat.zero_add, Nat.sub_zero, ynew, f2, f5, f14, f15, f16, rd1_of hbK, hvK.1.len, decide_eq_true hlt, hix, hrn, ixa, ixb, rda, rdb, wrap64_in, bin_rem]); try simp only [yback])
    generalize hH4 : AH.new K1 _ = H4
    obtain ⟨hb4, p4, n4⟩ := new_facts hH4
    refine (lv.pre p4).app (by omega) fun H5 l5 pre5 own5 lst5 lv5 => ?_
    ((try simp (maxSteps := 3000000) (dsimp := false) (disch := first | omega | (simp only [len_new, len_put, len_kill]; omega)) only [↓ypre, ypost, ↓reduceIte, Nat.reduceEqDiff, Nat.reduceAdd, Nat.reduceSub, Nat.reduceLeDiff, Nat.zero_add, Nat.sub_zero, ynew, f2, f5, f14, f15, f16, wrap64_in]); try simp only [yback])
    rw [← ev] at lv5
    refine InvQ_go (x.st.length - (i + 1)) (by omega) ⟨(i + 1), (H4.length + 1), false, rfl, by omega, (by first | rfl | exact f2 | (simp only [upd_apply]; rfl) | (show I64 _ = _; congr 1; omega)), (by show sl _ _ = _; rw [ev]), (by first | rfl | exact f14 | (simp only [upd_apply]; rfl) | (show I64 _ = _; congr 1; omega)), (by first | rfl | exact f15 | (simp only [upd_apply]; rfl) | (show I64 _ = _; congr 1; omega)), (by first | rfl | exact f16 | (simp only [upd_apply]; rfl) | (show I64 _ = _; congr 1; omega)), (pre5 _ hk (pp.trans p4)), lv5, (by have := pre_len pp; omega)⟩
  have ei : i = x.st.length := by omega
  subst ei
  ((try simp (maxSteps := 3000000) (dsimp := false) (disch := first | omega | (simp only [len_new, len_put, len_kill]; omega)) only [↓ypre, ypost, ↓reduceIte, Nat.reduceEqDiff, Nat.reduceAdd, Nat.reduceSub, Nat.reduceLeDiff, Nat.zero_add, Nat.sub_zero, ynew, f2, f5, f14, f15, f16, rd1_of hbK, hvK.1.len, hvK.2.len, decide_eq_false hlt]); try simp only [yback])
  have va := valS_in pf hv hn hl (i := x.st.length) (Nat.le_refl _)
  unfold runP at hQ
  generalize valS x.p x.st ns x.st.length = vs at *
  generalize hH6 : AH.new K1 _ = H6
  obtain ⟨hb6, p6, n6⟩ := new_facts hH6
  have lo' : Lst H6 K1.length (outS x.p x.out vs 0) true := hb6
  ((try simp (maxSteps := 3000000) (dsimp := false) (disch := first | omega | (simp only [len_new, len_put, len_kill]; omega)) only [↓ypre, ypost, ↓reduceIte, Nat.reduceEqDiff, Nat.reduceAdd, Nat.reduceSub, Nat.reduceLeDiff, Nat.zero_add, Nat.sub_zero, ynew, f2, f5, f14, f15, f16, rd1_of (pre_get p6 hbK), hvK.2.len]); try simp only [yback])
  refine WC_loop_inv (fun m f K2 => ∃ (i : Nat) (ko : Nat) (fo : Bool), m = x.out.length - i ∧ i ≤ x.out.length ∧ f 2 = .pointer (some ⟨h.length, 0, none⟩) ∧ f 5 = sl kv vs.length ∧ f 8 = sl ko (outS x.p x.out vs i).length ∧ f 43 = w ∧ f 44 = I64 x.out.length ∧ f 45 = I64 i ∧ (H1 <+: K2) ∧ (Lst K2 kv vs fu) ∧ (Lst K2 ko (outS x.p x.out vs i) fo) ∧ (H1.length ≤ ko ∧ kv ≠ ko)) ?_ (x.out.length - 0) _ _ ⟨0, K1.length, true, rfl, by omega, (by first | rfl | exact f2 | (simp [upd_apply]; done)), (by first | rfl | exact f5 | (simp [upd_apply]; done)), (by first | rfl | (simp [upd_apply]; done)), (by first | rfl | (simp [upd_apply]; done)), (by first | rfl | (simp [upd_apply]; done)), (by first | rfl | (simp [upd_apply]; done)), pp.trans p6, lv.pre p6, lo', ⟨by have := pre_len pp; omega, by omega⟩⟩
  rintro m f K2 ⟨i, ko, fo, rfl, hi, f2, f5, f8, f43, f44, f45, pp, lv, lo, hk⟩
  have hbK := pre_get pp hb1
  have ltK := get_lt hbK
  have hvK := hv.pre (p1.trans pp)
  have ltv := lv.lt
  have lto := lo.lt
  have ol := outS_len (p := x.p) (out := x.out) (vs := vs) (i := i)
  by_cases hlt : (i : Int) < x.out.length
  · have hi' : i < x.out.length := by omega
    obtain ⟨n, off, hix, hrn⟩ := hvK.2.rdw hi'
    obtain ⟨n', off', hix', hrn', hr1⟩ := hvK.2.at hi'
    obtain ⟨a, b, hq⟩ := all2 (hvK.2.wid hi')
    have r0 := hr1 0 (by omega)
    have r1 := hr1 1 (by omega)
    rw [hq, cel_2] at hrn
    rw [hq] at r0 r1
    simp only [Nat.add_zero, List.getD_cons_zero, List.getD_cons_succ] at r0 r1
    have s2 := pf.out2 hi' hq
    have hA := allIn_iff.1 va a.toNat (by omega)
    have m := mul_in (A := 4) (B := 4) (a := b) (b := vs.getD a.toNat 0) (by omega) (by omega)
    have ixa := Lst.ix (n := kv) (j := a) (len := vs.length) (by omega)
    have rda := lv.rd (j := a.toNat) (by omega)
    have ev : outS x.p x.out vs (i + 1) = outS x.p x.out vs i ++ [(b * vs.getD a.toNat 0).tmod x.p] := by
      rw [outS, hq]
      rfl
    ((try simp (maxSteps := 3000000) (dsimp := false) (disch := first | omega | (simp only [len_new, len_put, len_kill]; omega)) only [↓ypre, ypost, ↓reduceIte, Nat.reduceEqDiff, Nat.reduceAdd, Nat.reduceSub, Nat.reduceLeDiff, Nat.zero_add, Nat.sub_zero, ynew, f2, f5, f8, f43, f44, f45, rd1_of hbK, hvK.2.len, decide_eq_true hlt, hix, hrn, ixa, rda, wrap64_in, bin_rem]); try simp only [yback])
    generalize hH7 : AH.new K2 _ = H7
    obtain ⟨hb7, p7, n7⟩ := new_facts hH7
    refine (lo.pre p7).app (by omega) fun H5 l5 pre5 own5 lst5 lo5 => ?_
    ((try simp (maxSteps := 3000000) (dsimp := false) (disch := first | omega | (simp only [len_new, len_put, len_kill]; omega)) only [↓ypre, ypost, ↓reduceIte, Nat.reduceEqDiff, Nat.reduceAdd, Nat.reduceSub, Nat.reduceLeDiff, Nat.zero_add, Nat.sub_zero, ynew, f2, f5, f8, f43, f44, f45, wrap64_in]); try simp only [yback])
    rw [← ev] at lo5
    refine InvQ_go (x.out.length - (i + 1)) (by omega) ⟨(i + 1), (H7.length + 1), false, rfl, by omega, (by first | rfl | exact f2 | (simp only [upd_apply]; rfl) | (show I64 _ = _; congr 1; omega)), (by first | rfl | exact f5 | (simp only [upd_apply]; rfl) | (show I64 _ = _; congr 1; omega)), (by show sl _ _ = _; rw [ev]), (by first | rfl | exact f43 | (simp only [upd_apply]; rfl) | (show I64 _ = _; congr 1; omega)), (by first | rfl | exact f44 | (simp only [upd_apply]; rfl) | (show I64 _ = _; congr 1; omega)), (by first | rfl | exact f45 | (simp only [upd_apply]; rfl) | (show I64 _ = _; congr 1; omega)), (pre5 _ hk.1 (pp.trans p7)), (lst5 _ _ _ hk.2 (lv.pre p7)), lo5, ⟨by have := pre_len pp; omega, by omega⟩⟩
  have ei : i = x.out.length := by omega
  subst ei
  ((try simp (maxSteps := 3000000) (dsimp := false) (disch := first | omega | (simp only [len_new, len_put, len_kill]; omega)) only [↓ypre, ypost, ↓reduceIte, Nat.reduceEqDiff, Nat.reduceAdd, Nat.reduceSub, Nat.reduceLeDiff, Nat.zero_add, Nat.sub_zero, ynew, f2, f5, f8, f43, f44, f45, rd1_of hbK, hvK.2.len, decide_eq_false hlt]); try simp only [yback])
  exact hQ ko fo _ (by omega) (p1.trans pp) lo
def mmx (b : Bool) (x y : Value) : Option Value := match x, y with
  | .int k a, .int _ c => some (.int k (if b then (if c > a then c else a) else (if c < a then c else a)))
  | _, _ => none
theorem yWX_mmx {S : XS} {f : Fr} {h : AH} {Q : Value → AH → Prop} {b : Bool} {x y : Operand} : WX S (.mm b x [y]) f h Q = yWV (mmx b (ev f x) (ev f y)) (fun v => Q v h) .mk := by
  refine WX_of (fun _ => rfl) ?_
  simp only [xop, List.map_cons, List.map_nil]
  generalize ev f x = vx
  generalize ev f y = vy
  cases vx <;> first | rfl | skip
  cases vy <;> rfl
theorem mmx_max {a c : Int} {k k' : IntKind} : mmx true (.int k a) (.int k' c) = some (.int k (if c > a then c else a)) := rfl

end Go.Proofs.Ytilpnbejpndgpaa.X
