/- Texts of one claim, put together by merge.py: XP3, XP4, XP5. -/
import Derived.Test.YtilpnbejpndgpaaM4
import Derived.Test.YtilpnbejpndgpaaM5
/- Lists under way in known blocks; what programs make: RunProgram of both sides. -/
set_option linter.unusedVariables false
set_option linter.unusedSimpArgs false
set_option maxRecDepth 20000
set_option maxHeartbeats 4000000
namespace Go.Proofs.Ytilpnbejpndgpaa.X
open Go Go.RowKit

theorem map_get {l : List Int} {j : Nat} (hj : j < l.length) : (l.map (Value.int .i64))[j]? = some (I64 (l.getD j 0)) := by
  simp [List.getD_eq_getElem?_getD, hj]
theorem map_set {l : List Int} {j : Nat} {x : Int} (hj : j < l.length) : splice (l.map (Value.int .i64)) j [I64 x] = (l.set j x).map (Value.int .i64) := by
  rw [splice_set (by simpa using hj)]
  simp [List.map_set]
/-- A list in a block of one's own that is known. -/
def Lst (h : AH) (n : Nat) (l : List Int) (full : Bool) : Prop := h.get n = some ⟨l.map (Value.int .i64), 2, false, full⟩
def sl (n len : Nat) : Value := .slice (some ⟨n, 0, none⟩) len 1
section
variable {h h' : AH} {n : Nat} {l : List Int} {full : Bool}
theorem Lst.pre (o : Lst h n l full) (p : h <+: h') : Lst h' n l full := pre_get p o
theorem Lst.lt (o : Lst h n l full) : n < h.length := get_lt o
theorem Lst.own (o : Lst h n l full) : OwnB h n (l.map (Value.int .i64)) full := ⟨_, o⟩
theorem Lst.put_ne {m : Nat} {b : Blk} (o : Lst h n l full) (e : m ≠ n) : Lst (h.put m b) n l full := by
  unfold Lst
  rw [get_put_ne e]
  exact o
theorem Lst.ix {j : Int} {len : Nat} (h0 : 0 ≤ j ∧ j < len) : ixsV 1 (sl n len) (I64 j) = some (.pointer (some ⟨n, j.toNat, none⟩)) := by
  unfold sl
  rw [ixsV_some, if_pos ⟨h0.1, h0.2, rfl⟩]
  simp
theorem Lst.rd {j : Nat} (o : Lst h n l full) (hj : j < l.length) : h.rd1 n j = some (I64 (l.getD j 0)) := by
  rw [rd1_of o]
  exact map_get hj
theorem Lst.wr {j : Nat} {x : Int} (o : Lst h n l full) (hj : j < l.length) : ∃ h', h.wr n j [I64 x] = some h' ∧ h' = h.put n ⟨(l.set j x).map (Value.int .i64), 2, false, full⟩ ∧ Lst h' n (l.set j x) full := by
  refine ⟨_, ?_, rfl, get_put_same o.lt⟩
  rw [wr_of o, if_pos ⟨rfl, by simp only [List.length_map, List.length_singleton]; omega⟩, map_set hj]
theorem Lst.ints (o : Lst h n l full) : Ints h (sl n l.length) l := Ints.own o rfl
theorem Lst.ownR {h0 : AH} (o : Lst h n l full) (hn : h0.length ≤ n) : OwnR h0 h (sl n l.length) l := OwnR.of hn rfl o
theorem Lst.app {H : AH} {x : Int} {e' : TypeId} {ro fu : Bool} (o : Lst H n l full) (hl : (l.length : Int) ≤ 1048576) {Q : Value → AH → Prop}
    (hQ : ∀ H', H'.length = H.length + 2 → (∀ h0 : AH, h0.length ≤ n → h0 <+: H → h0 <+: H') → (∀ m c f, m ≠ n → OwnB H m c f → OwnB H' m c f) → (∀ m c f, m ≠ n → Lst H m c f → Lst H' m c f) → Lst H' (H.length + 1) (l ++ [x]) false → Q (sl (H.length + 1) (l ++ [x]).length) H') :
    OQ (appV 2 1 8 (sl n l.length) (.slice (some ⟨H.length, 0, none⟩) 1 1) (H.new ⟨[I64 x], e', ro, fu⟩)) Q := by
  have hn : (H.new ⟨[I64 x], e', ro, fu⟩).rdn H.length 0 1 = some [I64 x] := by rw [rdn_new_same]; rfl
  have hk : (H.new ⟨[I64 x], e', ro, fu⟩).get n = some ⟨l.map (Value.int .i64), 2, false, full⟩ := get_new_any o
  have hkb := o.lt
  unfold sl
  rw [app_own hk (by simp) hn (by omega), OQ_some]
  have := hQ (((H.new ⟨[I64 x], e', ro, fu⟩).kill n).new ⟨l.map (Value.int .i64) ++ [I64 x], 2, false, false⟩) (by rw [len_new, len_kill, len_new]) (fun h0 q p => pre_new (pre_kill (pre_new p) q))
    (fun m c f hm o => (o.new.kill_ne (fun e => hm e.symm)).new) (fun m c f hm o => get_new_any (by rw [get_kill_ne (fun e => hm e.symm)]; exact get_new_any o)) (by unfold Lst; rw [get_new_eq (by rw [len_kill, len_new])]; simp)
  unfold sl at this
  rw [len_new]
  rw [List.length_append, List.length_singleton] at this
  exact this
end
theorem s_OwnT {v : Value} {ns : List Int} {h : AH} {Q : Value → AH → Prop} (hv : Ints h v ns) (h0 : 0 < ns.length) (hl : (ns.length : Int) ≤ 1048576)
    (hQ : ∀ n h', h.length ≤ n → h <+: h' → Lst h' n ns false → Q (sl n ns.length) h') : WF S 113 [v] h Q := by
  refine WF_fn (fn := c113) rfl rfl ?_
  unfold c113
  obtain ⟨n, off, rfl, hr⟩ := hv.vals.rdn (by simpa using h0)
  try simp (maxSteps := 3000000) (disch := first | omega | (simp only [len_new, len_put, len_kill]; omega)) only [↓xpre, xpost, ↓reduceIte, Nat.reduceEqDiff, Nat.reduceAdd, Nat.reduceSub, Nat.reduceLeDiff, Nat.zero_add, Nat.sub_zero, fillL, zrep]
  rw [List.length_map] at hr ⊢
  rw [app_zero get_new_same (show AH.rdn (AH.new h _) n off ns.length = _ by rw [rdn_eq] at hr ⊢; obtain ⟨b, hb, hc⟩ := Option.bind_eq_some_iff.1 hr; rw [get_new_any hb]; exact hc) h0 (by omega)]
  try simp (maxSteps := 3000000) (disch := first | omega | (simp only [len_new, len_put, len_kill]; omega)) only [↓xpre, xpost, ↓reduceIte, Nat.reduceEqDiff, Nat.reduceAdd, Nat.reduceSub, Nat.reduceLeDiff, Nat.zero_add, Nat.sub_zero]
  exact hQ _ _ (by rw [len_new]; omega) (pre_new (pre_kill (pre_new (List.prefix_refl _)) (Nat.le_refl _))) (get_new_eq (by rw [len_kill]))
theorem i_CloneT {v : Value} {ns : List Int} {h : AH} {Q : Value → AH → Prop} (hv : Ints h v ns) (h0 : 0 < ns.length) (hl : (ns.length : Int) ≤ 1048576)
    (hQ : ∀ n h', h.length ≤ n → h <+: h' → Lst h' n ns false → Q (sl n ns.length) h') : WF S 126 [v] h Q := by
  refine WF_fn (fn := c126) rfl rfl ?_
  unfold c126
  obtain ⟨n, off, rfl, hr⟩ := hv.vals.rdn (by simpa using h0)
  try simp (maxSteps := 3000000) (disch := first | omega | (simp only [len_new, len_put, len_kill]; omega)) only [↓xpre, xpost, ↓reduceIte, Nat.reduceEqDiff, Nat.reduceAdd, Nat.reduceSub, Nat.reduceLeDiff, Nat.zero_add, Nat.sub_zero, ↓WX_isnil, isnilV_some, fillL, zrep]
  rw [List.length_map] at hr ⊢
  rw [app_zero get_new_same (show AH.rdn (AH.new h _) n off ns.length = _ by rw [rdn_eq] at hr ⊢; obtain ⟨b, hb, hc⟩ := Option.bind_eq_some_iff.1 hr; rw [get_new_any hb]; exact hc) h0 (by omega)]
  try simp (maxSteps := 3000000) (disch := first | omega | (simp only [len_new, len_put, len_kill]; omega)) only [↓xpre, xpost, ↓reduceIte, Nat.reduceEqDiff, Nat.reduceAdd, Nat.reduceSub, Nat.reduceLeDiff, Nat.zero_add, Nat.sub_zero]
  exact hQ _ _ (by rw [len_new]; omega) (pre_new (pre_kill (pre_new (List.prefix_refl _)) (Nat.le_refl _))) (get_new_eq (by rw [len_kill]))

/-! ### What programs make -/
def nq (q : List Int) (i : Nat) : Nat := (q.getD i 0).toNat
def valS (p : Int) (st : List (List Int)) (ns : List Int) : Nat → List Int
  | 0 => ns
  | i + 1 => valS p st ns i ++ [((valS p st ns i).getD (nq (st.getD i []) 0) 0 + (st.getD i []).getD 2 0 * (valS p st ns i).getD (nq (st.getD i []) 1) 0).tmod p]
theorem valS_len {p : Int} {st : List (List Int)} {ns : List Int} : ∀ {i : Nat}, (valS p st ns i).length = ns.length + i
  | 0 => rfl
  | i + 1 => by simp [valS, valS_len (i := i)]; omega
def outS (p : Int) (out : List (List Int)) (vs : List Int) : Nat → List Int
  | 0 => []
  | i + 1 => outS p out vs i ++ [((out.getD i []).getD 1 0 * vs.getD (nq (out.getD i []) 0) 0).tmod p]
theorem outS_len {p : Int} {out : List (List Int)} {vs : List Int} : ∀ {i : Nat}, (outS p out vs i).length = i
  | 0 => rfl
  | i + 1 => by simp [outS, outS_len (i := i)]
def runP (x : Prg) (ns : List Int) : List Int := outS x.p x.out (valS x.p x.st ns x.st.length) x.out.length
theorem runP_len {x : Prg} {ns : List Int} : (runP x ns).length = x.out.length := outS_len
theorem allIn_app {p : Int} {l : List Int} {x : Int} (h : allIn p l = true) (hx : 0 ≤ x ∧ x < p) : allIn p (l ++ [x]) = true := by
  unfold allIn at h ⊢
  rw [List.all_append, h]
  simp [hx]
/-- The facts of a program. -/
structure PrgF (x : Prg) : Prop where
  p : 2 ≤ x.p ∧ x.p ≤ 5
  n : 1 ≤ x.n ∧ x.n ≤ 30
  st : x.st.length ≤ 900
  out : 1 ≤ x.out.length ∧ x.out.length ≤ 30
  step : ∀ i, i < x.st.length → okStep x.p (x.n + (i : Nat)) (x.st.getD i []) = true
  outs : ∀ i, i < x.out.length → okOut x.p (x.n + x.st.length) (x.out.getD i []) = true
theorem isPrg_facts {x : Prg} (h : isPrg x = true) : PrgF x := by
  unfold isPrg headP at h
  simp only [Bool.and_eq_true, decide_eq_true_eq] at h
  obtain ⟨⟨⟨h1, h2, h3, h4, h5, h6⟩, h7⟩, h8⟩ := h
  exact ⟨isP_in h1, ⟨h2, h3⟩, h4, ⟨h5, h6⟩, fun i hi => allN_at (f := fun i : Nat => okStep x.p (x.n + i) (x.st.getD i [])) h7 hi, fun i hi => allN_at (f := fun i : Nat => okOut x.p (x.n + x.st.length) (x.out.getD i [])) h8 hi⟩
theorem PrgF.st3 {x : Prg} (f : PrgF x) {i : Nat} {a b d : Int} (hi : i < x.st.length) (hq : x.st.getD i [] = [a, b, d]) : 0 ≤ a ∧ a < x.n + i ∧ 0 ≤ b ∧ b < x.n + i ∧ a ≠ b ∧ 1 ≤ d ∧ d < x.p := by
  have := f.step i hi
  rw [hq, okStep_3, decide_eq_true_eq] at this
  exact this
theorem PrgF.out2 {x : Prg} (f : PrgF x) {i : Nat} {a b : Int} (hi : i < x.out.length) (hq : x.out.getD i [] = [a, b]) : 0 ≤ a ∧ a < x.n + x.st.length ∧ 0 ≤ b ∧ b < x.p ∧ ¬ (b = 0 ∧ a ≠ 0) := by
  have := f.outs i hi
  rw [hq, okOut_2, decide_eq_true_eq] at this
  exact this
theorem valS_in {x : Prg} {h : AH} {v w : Value} (f : PrgF x) (hv : PrgR h v w x) {ns : List Int} (hn : allIn x.p ns = true) (hl : (ns.length : Int) = x.n) : ∀ {i : Nat}, i ≤ x.st.length → allIn x.p (valS x.p x.st ns i) = true
  | 0, _ => hn
  | i + 1, hi => by
    have ih := valS_in f hv hn hl (i := i) (by omega)
    obtain ⟨a, b, d, hq⟩ := all3 (hv.1.wid (show i < x.st.length by omega))
    have s3 := f.st3 (by omega) hq
    have fp := f.p
    refine allIn_app ih ?_
    rw [hq]
    have hA := allIn_iff.1 ih a.toNat (by rw [valS_len]; omega)
    have hB := allIn_iff.1 ih b.toNat (by rw [valS_len]; omega)
    have m := mul_in (A := 4) (B := 4) (a := d) (b := (valS x.p x.st ns i).getD b.toNat 0) (by omega) (by omega)
    exact tmod_nn (by show 0 ≤ (valS x.p x.st ns i).getD a.toNat 0 + d * (valS x.p x.st ns i).getD b.toNat 0; omega) (by omega)

theorem s_run {v w u : Value} {x : Prg} {ns : List Int} {h : AH} {Q : Value → AH → Prop} (hv : PrgR h v w x) (pf : PrgF x) (hu : Ints h u ns) (hn : allIn x.p ns = true) (hl : (ns.length : Int) = x.n)
    (hQ : ∀ n full h', h.length ≤ n → h <+: h' → Lst h' n (runP x ns) full → Q (sl n (runP x ns).length) h') : WF S 84 [prgV x v w, u] h Q := by
  refine WF_fn (fn := c84) rfl rfl ?_
  unfold c84
  have fp := pf.p
  have fn := pf.n
  have fst := pf.st
  have fout := pf.out
  ((try simp (maxSteps := 3000000) (dsimp := false) (disch := first | omega | (simp only [len_new, len_put, len_kill]; omega)) only [↓ypre, ypost, ↓reduceIte, Nat.reduceEqDiff, Nat.reduceAdd, Nat.reduceSub, Nat.reduceLeDiff, Nat.zero_add, Nat.sub_zero, ynew, prgV, hv.1.one, hv.2.one]); try simp only [yback])
  generalize hH1 : AH.new h _ = H1
  obtain ⟨hb1, p1, n1⟩ := new_facts hH1
  refine s_OwnT (hu.pre p1) (by omega) (by omega) fun kv H2 hkv p2 lv => ?_
  have hb2 := pre_get p2 hb1
  have ltv := lv.lt
  ((try simp (maxSteps := 3000000) (dsimp := false) (disch := first | omega | (simp only [len_new, len_put, len_kill]; omega)) only [↓ypre, ypost, ↓reduceIte, Nat.reduceEqDiff, Nat.reduceAdd, Nat.reduceSub, Nat.reduceLeDiff, Nat.zero_add, Nat.sub_zero, ynew, rd1_of hb2, hv.1.len]); try simp only [yback])
  generalize hH3 : AH.new H2 _ = H3
  obtain ⟨hb3, p3, n3⟩ := new_facts hH3
  have lo : Lst H3 H2.length [] true := hb3
  refine WC_loop_inv (fun m f K1 => ∃ (i : Nat) (kv : Nat) (fu : Bool), m = x.st.length - i ∧ i ≤ x.st.length ∧ f 2 = .pointer (some ⟨h.length, 0, none⟩) ∧ f 5 = sl kv (valS x.p x.st ns i).length ∧ f 6 = sl H2.length 0 ∧ f 7 = I64 i ∧ (H1 <+: K1) ∧ (Lst K1 kv (valS x.p x.st ns i) fu) ∧ (Lst K1 H2.length [] true) ∧ (H1.length ≤ kv ∧ kv ≠ H2.length)) ?_ (x.st.length - 0) _ _ ⟨0, kv, false, rfl, by omega, (by first | rfl | (simp [upd_apply]; done)), (by first | rfl | (simp [upd_apply]; done)), (by first | rfl | (simp [upd_apply]; done)), (by first | rfl | (simp [upd_apply]; done)), p2.trans p3, lv.pre p3, lo, ⟨hkv, by omega⟩⟩
  rintro m f K1 ⟨i, kv, fu, rfl, hi, f2, f5, f6, f7, pp, lv, lo, hk⟩
  have hbK := pre_get pp hb1
  have ltK := get_lt hbK
  have hvK := hv.pre (p1.trans pp)
  have ltv := lv.lt
  have vl := valS_len (p := x.p) (st := x.st) (ns := ns) (i := i)
  by_cases hlt : (i : Int) < x.st.length
  · have hi' : i < x.st.length := by omega
    obtain ⟨n, off, hix, hrn⟩ := hvK.1.rdw hi'
    obtain ⟨a, b, d, hq⟩ := all3 (hvK.1.wid hi')
    rw [hq, cel_3] at hrn
    have s3 := pf.st3 hi' hq
    have va := valS_in pf hv hn hl (i := i) (by omega)
    have hA := allIn_iff.1 va a.toNat (by omega)
    have hB := allIn_iff.1 va b.toNat (by omega)
    have m := mul_in (A := 4) (B := 4) (a := d) (b := (valS x.p x.st ns i).getD b.toNat 0) (by omega) (by omega)
    have ixa := Lst.ix (n := kv) (j := a) (len := (valS x.p x.st ns i).length) (by omega)
    have ixb := Lst.ix (n := kv) (j := b) (len := (valS x.p x.st ns i).length) (by omega)
    have rda := lv.rd (j := a.toNat) (by omega)
    have rdb := lv.rd (j := b.toNat) (by omega)
    have ev : valS x.p x.st ns (i + 1) = valS x.p x.st ns i ++ [((valS x.p x.st ns i).getD a.toNat 0 + d * (valS x.p x.st ns i).getD b.toNat 0).tmod x.p] := by
      rw [valS, hq]
      rfl
    ((try simp (maxSteps := 3000000) (dsimp := false) (disch := first | omega | (simp only [len_new, len_put, len_kill]; omega)) only [↓ypre, ypost, ↓reduceIte, Nat.reduceEqDiff, Nat.reduceAdd, Nat.reduceSub, Nat.reduceLeDiff, Nat.zero_add, Nat.sub_zero, ynew, f2, f5, f6, f7, rd1_of hbK, hvK.1.len, decide_eq_true hlt, hix, hrn, ixa, ixb, rda, rdb, wrap64_in, bin_rem]); try simp only [yback])
    generalize hH4 : AH.new K1 _ = H4
    obtain ⟨hb4, p4, n4⟩ := new_facts hH4
    refine (lv.pre p4).app (by omega) fun H5 l5 pre5 own5 lst5 lv5 => ?_
    ((try simp (maxSteps := 3000000) (dsimp := false) (disch := first | omega | (simp only [len_new, len_put, len_kill]; omega)) only [↓ypre, ypost, ↓reduceIte, Nat.reduceEqDiff, Nat.reduceAdd, Nat.reduceSub, Nat.reduceLeDiff, Nat.zero_add, Nat.sub_zero, ynew, f2, f5, f6, f7, wrap64_in]); try simp only [yback])
    rw [← ev] at lv5
    refine InvQ_go (x.st.length - (i + 1)) (by omega) ⟨(i + 1), (H4.length + 1), false, rfl, by omega, (by first | rfl | exact f2 | (simp only [upd_apply]; rfl) | (show I64 _ = _; congr 1; omega)), (by show sl _ _ = _; rw [ev]), (by first | rfl | exact f6 | (simp only [upd_apply]; rfl) | (show I64 _ = _; congr 1; omega)), (by first | rfl | exact f7 | (simp only [upd_apply]; rfl) | (show I64 _ = _; congr 1; omega)), (pre5 _ hk.1 (pp.trans p4)), lv5, (lst5 _ _ _ (fun e => hk.2 e.symm) (lo.pre p4)), ⟨by have := pre_len pp; omega, by have := lo.lt; omega⟩⟩
  have ei : i = x.st.length := by omega
  subst ei
  ((try simp (maxSteps := 3000000) (dsimp := false) (disch := first | omega | (simp only [len_new, len_put, len_kill]; omega)) only [↓ypre, ypost, ↓reduceIte, Nat.reduceEqDiff, Nat.reduceAdd, Nat.reduceSub, Nat.reduceLeDiff, Nat.zero_add, Nat.sub_zero, ynew, f2, f5, f6, f7, rd1_of hbK, hvK.1.len, hvK.2.len, decide_eq_false hlt]); try simp only [yback])
  have va := valS_in pf hv hn hl (i := x.st.length) (Nat.le_refl _)
  unfold runP at hQ
  generalize valS x.p x.st ns x.st.length = vs at *
  have lo' : Lst K1 H2.length (outS x.p x.out vs 0) true := lo
  refine WC_loop_inv (fun m f K2 => ∃ (i : Nat) (ko : Nat) (fo : Bool), m = x.out.length - i ∧ i ≤ x.out.length ∧ f 2 = .pointer (some ⟨h.length, 0, none⟩) ∧ f 5 = sl kv vs.length ∧ f 6 = sl ko (outS x.p x.out vs i).length ∧ f 9 = I64 i ∧ (H1 <+: K2) ∧ (Lst K2 kv vs fu) ∧ (Lst K2 ko (outS x.p x.out vs i) fo) ∧ (H1.length ≤ ko ∧ kv ≠ ko)) ?_ (x.out.length - 0) _ _ ⟨0, H2.length, true, rfl, by omega, (by first | rfl | exact f2 | (simp [upd_apply]; done)), (by first | rfl | exact f5 | (simp [upd_apply]; done)), (by first | rfl | exact f6 | (simp [upd_apply]; done)), (by first | rfl | (simp [upd_apply]; done)), pp, lv, lo', ⟨by have := pre_len p2; omega, hk.2⟩⟩
  rintro m f K2 ⟨i, ko, fo, rfl, hi, f2, f5, f6, f9, pp, lv, lo, hk⟩
  have hbK := pre_get pp hb1
  have ltK := get_lt hbK
  have hvK := hv.pre (p1.trans pp)
  have ltv := lv.lt
  have lto := lo.lt
  have ol := outS_len (p := x.p) (out := x.out) (vs := vs) (i := i)
  by_cases hlt : (i : Int) < x.out.length
  · have hi' : i < x.out.length := by omega
    obtain ⟨n, off, hix, hrn⟩ := hvK.2.rdw hi'
    obtain ⟨n', off', hix', hrn', hr1⟩ := hvK.2.at hi'
    obtain ⟨a, b, hq⟩ := all2 (hvK.2.wid hi')
    have r0 := hr1 0 (by omega)
    have r1 := hr1 1 (by omega)
    rw [hq, cel_2] at hrn
    rw [hq] at r0 r1
    simp only [Nat.add_zero, List.getD_cons_zero, List.getD_cons_succ] at r0 r1
    have s2 := pf.out2 hi' hq
    have hA := allIn_iff.1 va a.toNat (by omega)
    have m := mul_in (A := 4) (B := 4) (a := b) (b := vs.getD a.toNat 0) (by omega) (by omega)
    have ixa := Lst.ix (n := kv) (j := a) (len := vs.length) (by omega)
    have rda := lv.rd (j := a.toNat) (by omega)
    have ev : outS x.p x.out vs (i + 1) = outS x.p x.out vs i ++ [(b * vs.getD a.toNat 0).tmod x.p] := by
      rw [outS, hq]
      rfl
    ((try simp (maxSteps := 3000000) (dsimp := false) (disch := first | omega | (simp only [len_new, len_put, len_kill]; omega)) only [↓ypre, ypost, ↓reduceIte, Nat.reduceEqDiff, Nat.reduceAdd, Nat.reduceSub, Nat.reduceLeDiff, Nat.zero_add, Nat.sub_zero, ynew, f2, f5, f6, f9, Nat.add_zero, rd1_of hbK, hvK.2.len, decide_eq_true hlt, hix', r0, r1, ixa, rda, wrap64_in, bin_rem]); try simp only [yback])
    refine lo.app (by omega) fun H5 l5 pre5 own5 lst5 lo5 => ?_
    ((try simp (maxSteps := 3000000) (dsimp := false) (disch := first | omega | (simp only [len_new, len_put, len_kill]; omega)) only [↓ypre, ypost, ↓reduceIte, Nat.reduceEqDiff, Nat.reduceAdd, Nat.reduceSub, Nat.reduceLeDiff, Nat.zero_add, Nat.sub_zero, ynew, f2, f5, f6, f9, wrap64_in]); try simp only [yback])
    rw [← ev] at lo5
    refine InvQ_go (x.out.length - (i + 1)) (by omega) ⟨(i + 1), (K2.length + 1), false, rfl, by omega, (by first | rfl | exact f2 | (simp only [upd_apply]; rfl) | (show I64 _ = _; congr 1; omega)), (by first | rfl | exact f5 | (simp only [upd_apply]; rfl) | (show I64 _ = _; congr 1; omega)), (by show sl _ _ = _; rw [ev]), (by first | rfl | exact f9 | (simp only [upd_apply]; rfl) | (show I64 _ = _; congr 1; omega)), (pre5 _ hk.1 pp), (lst5 _ _ _ hk.2 lv), lo5, ⟨by have := pre_len pp; omega, by omega⟩⟩
  have ei : i = x.out.length := by omega
  subst ei
  ((try simp (maxSteps := 3000000) (dsimp := false) (disch := first | omega | (simp only [len_new, len_put, len_kill]; omega)) only [↓ypre, ypost, ↓reduceIte, Nat.reduceEqDiff, Nat.reduceAdd, Nat.reduceSub, Nat.reduceLeDiff, Nat.zero_add, Nat.sub_zero, ynew, f2, f5, f6, f9, rd1_of hbK, hvK.2.len, decide_eq_false hlt]); try simp only [yback])
  exact hQ ko fo _ (by omega) (p1.trans pp) lo
theorem i_run {v w u : Value} {x : Prg} {ns : List Int} {h : AH} {Q : Value → AH → Prop} (hv : PrgR h v w x) (pf : PrgF x) (hu : Ints h u ns) (hn : allIn x.p ns = true) (hl : (ns.length : Int) = x.n)
    (hQ : ∀ n full h', h.length ≤ n → h <+: h' → Lst h' n (runP x ns) full → Q (sl n (runP x ns).length) h') : WF S 86 [prgV x v w, u] h Q := by
  refine WF_fn (fn := c86) rfl rfl ?_
  unfold c86
  have fp := pf.p
  have fn := pf.n
  have fst := pf.st
  have fout := pf.out
  ((try simp (maxSteps := 3000000) (dsimp := false) (disch := first | omega | (simp only [len_new, len_put, len_kill]; omega)) only [↓ypre, ypost, ↓reduceIte, Nat.reduceEqDiff, Nat.reduceAdd, Nat.reduceSub, Nat.reduceLeDiff, Nat.zero_add, Nat.sub_zero, ynew, prgV, hv.1.one, hv.2.one]); try simp only [yback])
  generalize hH1 : AH.new h _ = H1
  obtain ⟨hb1, p1, n1⟩ := new_facts hH1
  refine i_CloneT (hu.pre p1) (by omega) (by omega) fun kv H2 hkv p2 lv => ?_
  have hb2 := pre_get p2 hb1
  have ltv := lv.lt
  ((try simp (maxSteps := 3000000) (dsimp := false) (disch := first | omega | (simp only [len_new, len_put, len_kill]; omega)) only [↓ypre, ypost, ↓reduceIte, Nat.reduceEqDiff, Nat.reduceAdd, Nat.reduceSub, Nat.reduceLeDiff, Nat.zero_add, Nat.sub_zero, ynew, rd1_of hb2, hv.1.len]); try simp only [yback])
  refine WC_loop_inv (fun m f K1 => ∃ (i : Nat) (kv : Nat) (fu : Bool), m = x.st.length - i ∧ i ≤ x.st.length ∧ f 2 = .pointer (some ⟨h.length, 0, none⟩) ∧ f 5 = sl kv (valS x.p x.st ns i).length ∧ f 14 = v ∧ f 15 = I64 x.st.length ∧ f 16 = I64 i ∧ (H1 <+: K1) ∧ (Lst K1 kv (valS x.p x.st ns i) fu) ∧ (H1.length ≤ kv)) ?_ (x.st.length - 0) _ _ ⟨0, kv, false, rfl, by omega, (by first | rfl | (simp [upd_apply]; done)), (by first | rfl | (simp [upd_apply]; done)), (by first | rfl | (simp [upd_apply]; done)), (by first | rfl | (simp [upd_apply]; done)), (by first | rfl | (simp [upd_apply]; done)), p2, lv, hkv⟩
  rintro m f K1 ⟨i, kv, fu, rfl, hi, f2, f5, f14, f15, f16, pp, lv, hk⟩
  have hbK := pre_get pp hb1
  have ltK := get_lt hbK
  have hvK := hv.pre (p1.trans pp)
  have ltv := lv.lt
  have vl := valS_len (p := x.p) (st := x.st) (ns := ns) (i := i)
  by_cases hlt : (i : Int) < x.st.length
  · have hi' : i < x.st.length := by omega
    obtain ⟨n, off, hix, hrn⟩ := hvK.1.rdw hi'
    obtain ⟨a, b, d, hq⟩ := all3 (hvK.1.wid hi')
    rw [hq, cel_3] at hrn
    have s3 := pf.st3 hi' hq
    have va := valS_in pf hv hn hl (i := i) (by omega)
    have hA := allIn_iff.1 va a.toNat (by omega)
    have hB := allIn_iff.1 va b.toNat (by omega)
    have m := mul_in (A := 4) (B := 4) (a := d) (b := (valS x.p x.st ns i).getD b.toNat 0) (by omega) (by omega)
    have ixa := Lst.ix (n := kv) (j := a) (len := (valS x.p x.st ns i).length) (by omega)
    have ixb := Lst.ix (n := kv) (j := b) (len := (valS x.p x.st ns i).length) (by omega)
    have rda := lv.rd (j := a.toNat) (by omega)
    have rdb := lv.rd (j := b.toNat) (by omega)
    have ev : valS x.p x.st ns (i + 1) = valS x.p x.st ns i ++ [((valS x.p x.st ns i).getD a.toNat 0 + d * (valS x.p x.st ns i).getD b.toNat 0).tmod x.p] := by
      rw [valS, hq]
      rfl
    ((try simp (maxSteps := 3000000) (dsimp := false) (disch := first | omega | (simp only [len_new, len_put, len_kill]; omega)) only [↓ypre, ypost, ↓reduceIte, Nat.reduceEqDiff, Nat.reduceAdd, Nat.reduceSub, Nat.reduceLeDiff, Nat.zero_add, Nat.sub_zero, ynew, f2, f5, f14, f15, f16, rd1_of hbK, hvK.1.len, decide_eq_true hlt, hix, hrn, ixa, ixb, rda, rdb, wrap64_in, bin_rem]); try simp only [yback])
    generalize hH4 : AH.new K1 _ = H4
    obtain ⟨hb4, p4, n4⟩ := new_facts hH4
    refine (lv.pre p4).app (by omega) fun H5 l5 pre5 own5 lst5 lv5 => ?_
    ((try simp (maxSteps := 3000000) (dsimp := false) (disch := first | omega | (simp only [len_new, len_put, len_kill]; omega)) only [↓ypre, ypost, ↓reduceIte, Nat.reduceEqDiff, Nat.reduceAdd, Nat.reduceSub, Nat.reduceLeDiff, Nat.zero_add, Nat.sub_zero, ynew, f2, f5, f14, f15, f16, wrap64_in]); try simp only [yback])
    rw [← ev] at lv5
    refine InvQ_go (x.st.length - (i + 1)) (by omega) ⟨(i + 1), (H4.length + 1), false, rfl, by omega, (by first | rfl | exact f2 | (simp only [upd_apply]; rfl) | (show I64 _ = _; congr 1; omega)), (by show sl _ _ = _; rw [ev]), (by first | rfl | exact f14 | (simp only [upd_apply]; rfl) | (show I64 _ = _; congr 1; omega)), (by first | rfl | exact f15 | (simp only [upd_apply]; rfl) | (show I64 _ = _; congr 1; omega)), (by first | rfl | exact f16 | (simp only [upd_apply]; rfl) | (show I64 _ = _; congr 1; omega)), (pre5 _ hk (pp.trans p4)), lv5, (by have := pre_len pp; omega)⟩
  have ei : i = x.st.length := by omega
  subst ei
  ((try simp (maxSteps := 3000000) (dsimp := false) (disch := first | omega | (simp only [len_new, len_put, len_kill]; omega)) only [↓ypre, ypost, ↓reduceIte, Nat.reduceEqDiff, Nat.reduceAdd, Nat.reduceSub, Nat.reduceLeDiff, Nat.zero_add, Nat.sub_zero, ynew, f2, f5, f14, f15, f16, rd1_of hbK, hvK.1.len, hvK.2.len, decide_eq_false hlt]); try simp only [yback])
  have va := valS_in pf hv hn hl (i := x.st.length) (Nat.le_refl _)
  unfold runP at hQ
  generalize valS x.p x.st ns x.st.length = vs at *
  generalize hH6 : AH.new K1 _ = H6
  obtain ⟨hb6, p6, n6⟩ := new_facts hH6
  have lo' : Lst H6 K1.length (outS x.p x.out vs 0) true := hb6
  ((try simp (maxSteps := 3000000) (dsimp := false) (disch := first | omega | (simp only [len_new, len_put, len_kill]; omega)) only [↓ypre, ypost, ↓reduceIte, Nat.reduceEqDiff, Nat.reduceAdd, Nat.reduceSub, Nat.reduceLeDiff, Nat.zero_add, Nat.sub_zero, ynew, f2, f5, f14, f15, f16, rd1_of (pre_get p6 hbK), hvK.2.len]); try simp only [yback])
  refine WC_loop_inv (fun m f K2 => ∃ (i : Nat) (ko : Nat) (fo : Bool), m = x.out.length - i ∧ i ≤ x.out.length ∧ f 2 = .pointer (some ⟨h.length, 0, none⟩) ∧ f 5 = sl kv vs.length ∧ f 8 = sl ko (outS x.p x.out vs i).length ∧ f 43 = w ∧ f 44 = I64 x.out.length ∧ f 45 = I64 i ∧ (H1 <+: K2) ∧ (Lst K2 kv vs fu) ∧ (Lst K2 ko (outS x.p x.out vs i) fo) ∧ (H1.length ≤ ko ∧ kv ≠ ko)) ?_ (x.out.length - 0) _ _ ⟨0, K1.length, true, rfl, by omega, (by first | rfl | exact f2 | (simp [upd_apply]; done)), (by first | rfl | exact f5 | (simp [upd_apply]; done)), (by first | rfl | (simp [upd_apply]; done)), (by first | rfl | (simp [upd_apply]; done)), (by first | rfl | (simp [upd_apply]; done)), (by first | rfl | (simp [upd_apply]; done)), pp.trans p6, lv.pre p6, lo', ⟨by have := pre_len pp; omega, by omega⟩⟩
  rintro m f K2 ⟨i, ko, fo, rfl, hi, f2, f5, f8, f43, f44, f45, pp, lv, lo, hk⟩
  have hbK := pre_get pp hb1
  have ltK := get_lt hbK
  have hvK := hv.pre (p1.trans pp)
  have ltv := lv.lt
  have lto := lo.lt
  have ol := outS_len (p := x.p) (out := x.out) (vs := vs) (i := i)
  by_cases hlt : (i : Int) < x.out.length
  · have hi' : i < x.out.length := by omega
    obtain ⟨n, off, hix, hrn⟩ := hvK.2.rdw hi'
    obtain ⟨n', off', hix', hrn', hr1⟩ := hvK.2.at hi'
    obtain ⟨a, b, hq⟩ := all2 (hvK.2.wid hi')
    have r0 := hr1 0 (by omega)
    have r1 := hr1 1 (by omega)
    rw [hq, cel_2] at hrn
    rw [hq] at r0 r1
    simp only [Nat.add_zero, List.getD_cons_zero, List.getD_cons_succ] at r0 r1
    have s2 := pf.out2 hi' hq
    have hA := allIn_iff.1 va a.toNat (by omega)
    have m := mul_in (A := 4) (B := 4) (a := b) (b := vs.getD a.toNat 0) (by omega) (by omega)
    have ixa := Lst.ix (n := kv) (j := a) (len := vs.length) (by omega)
    have rda := lv.rd (j := a.toNat) (by omega)
    have ev : outS x.p x.out vs (i + 1) = outS x.p x.out vs i ++ [(b * vs.getD a.toNat 0).tmod x.p] := by
      rw [outS, hq]
      rfl
    ((try simp (maxSteps := 3000000) (dsimp := false) (disch := first | omega | (simp only [len_new, len_put, len_kill]; omega)) only [↓ypre, ypost, ↓reduceIte, Nat.reduceEqDiff, Nat.reduceAdd, Nat.reduceSub, Nat.reduceLeDiff, Nat.zero_add, Nat.sub_zero, ynew, f2, f5, f8, f43, f44, f45, rd1_of hbK, hvK.2.len, decide_eq_true hlt, hix, hrn, ixa, rda, wrap64_in, bin_rem]); try simp only [yback])
    generalize hH7 : AH.new K2 _ = H7
    obtain ⟨hb7, p7, n7⟩ := new_facts hH7
    refine (lo.pre p7).app (by omega) fun H5 l5 pre5 own5 lst5 lo5 => ?_
    ((try simp (maxSteps := 3000000) (dsimp := false) (disch := first | omega | (simp only [len_new, len_put, len_kill]; omega)) only [↓ypre, ypost, ↓reduceIte, Nat.reduceEqDiff, Nat.reduceAdd, Nat.reduceSub, Nat.reduceLeDiff, Nat.zero_add, Nat.sub_zero, ynew, f2, f5, f8, f43, f44, f45, wrap64_in]); try simp only [yback])
    rw [← ev] at lo5
    refine InvQ_go (x.out.length - (i + 1)) (by omega) ⟨(i + 1), (H7.length + 1), false, rfl, by omega, (by first | rfl | exact f2 | (simp only [upd_apply]; rfl) | (show I64 _ = _; congr 1; omega)), (by first | rfl | exact f5 | (simp only [upd_apply]; rfl) | (show I64 _ = _; congr 1; omega)), (by show sl _ _ = _; rw [ev]), (by first | rfl | exact f43 | (simp only [upd_apply]; rfl) | (show I64 _ = _; congr 1; omega)), (by first | rfl | exact f44 | (simp only [upd_apply]; rfl) | (show I64 _ = _; congr 1; omega)), (by first | rfl | exact f45 | (simp only [upd_apply]; rfl) | (show I64 _ = _; congr 1; omega)), (pre5 _ hk.1 (pp.trans p7)), (lst5 _ _ _ hk.2 (lv.pre p7)), lo5, ⟨by have := pre_len pp; omega, by omega⟩⟩
  have ei : i = x.out.length := by omega
  subst ei
  ((try simp (maxSteps := 3000000) (dsimp := false) (disch := first | omega | (simp only [len_new, len_put, len_kill]; omega)) only [↓ypre, ypost, ↓reduceIte, Nat.reduceEqDiff, Nat.reduceAdd, Nat.reduceSub, Nat.reduceLeDiff, Nat.zero_add, Nat.sub_zero, ynew, f2, f5, f8, f43, f44, f45, rd1_of hbK, hvK.2.len, decide_eq_false hlt]); try simp only [yback])
  exact hQ ko fo _ (by omega) (p1.trans pp) lo
end Go.Proofs.Ytilpnbejpndgpaa.X

/- RunProgram and DepthsOf, both sides. -/
set_option linter.unusedVariables false
set_option linter.unusedSimpArgs false
set_option maxRecDepth 20000
set_option maxHeartbeats 4000000
namespace Go.Proofs.Ytilpnbejpndgpaa.X
open Go Go.RowKit

def mmx (b : Bool) (x y : Value) : Option Value := match x, y with
  | .int k a, .int _ c => some (.int k (if b then (if c > a then c else a) else (if c < a then c else a)))
  | _, _ => none
theorem yWX_mmx {S : XS} {f : Fr} {h : AH} {Q : Value → AH → Prop} {b : Bool} {x y : Operand} : WX S (.mm b x [y]) f h Q = yWV (mmx b (ev f x) (ev f y)) (fun v => Q v h) .mk := by
  refine WX_of (fun _ => rfl) ?_
  simp only [xop, List.map_cons, List.map_nil]
  generalize ev f x = vx
  generalize ev f y = vy
  cases vx <;> first | rfl | skip
  cases vy <;> rfl
theorem mmx_max {a c : Int} {k k' : IntKind} : mmx true (.int k a) (.int k' c) = some (.int k (if c > a then c else a)) := rfl

/-! ### RunProgram -/
def rpOK (x : Prg) (ns : List Int) : Prop := allIn x.p ns = true ∧ (ns.length : Int) = x.n
instance {x : Prg} {ns : List Int} : Decidable (rpOK x ns) := by unfold rpOK; infer_instance
def rpR (x : Prg) (ns : List Int) : List Int × Int := if isPrg x = true then (if rpOK x ns then (runP x ns, 0) else ([], 2)) else ([], 1)
theorem rpR_small (x : Prg) (ns : List Int) : SmallS (rpR x ns).1 := by
  unfold rpR SmallS
  split
  · rename_i h
    split
    · have := (isPrg_facts h).out
      rw [runP_len]
      omega
    · simp
  · simp
theorem s_RunProgram {v w u : Value} {x : Prg} {ns : List Int} {h : AH} {Q : Value → AH → Prop} (hv : PrgR h v w x) (hl : SmallP x) (hu : Ints h u ns) (hm : (ns.length : Int) ≤ 1048576)
    (hQ : ∀ v' h', h <+: h' → OwnR h h' v' (rpR x ns).1 → Q (.tuple #[v', I64 (rpR x ns).2]) h') : WF S 35 [prgV x v w, u] h Q := by
  refine WF_fn (fn := c35) rfl rfl ?_
  unfold c35
  ((try simp (maxSteps := 3000000) (dsimp := false) (disch := first | omega | (simp only [len_new, len_put, len_kill]; omega)) only [↓ypre, ypost, ↓reduceIte, Nat.reduceEqDiff, Nat.reduceAdd, Nat.reduceSub, Nat.reduceLeDiff, Nat.zero_add, Nat.sub_zero, ynew, prgV, hv.1.one, hv.2.one]); try simp only [yback])
  generalize hH1 : AH.new h _ = H1
  obtain ⟨hb1, p1, n1⟩ := new_facts hH1
  ((try simp (maxSteps := 3000000) (dsimp := false) (disch := first | omega | (simp only [len_new, len_put, len_kill]; omega)) only [↓ypre, ypost, ↓reduceIte, Nat.reduceEqDiff, Nat.reduceAdd, Nat.reduceSub, Nat.reduceLeDiff, Nat.zero_add, Nat.sub_zero, ynew, rdn_of hb1]); try simp only [yback])
  refine s_IsPrg (hv.pre p1) hl fun H2 p2 => ?_
  have hb2 := pre_get p2 hb1
  unfold rpR at hQ
  cases h1 : isPrg x with
  | false =>
    rw [h1, if_neg (by decide)] at hQ
    ((try simp (maxSteps := 3000000) (dsimp := false) (disch := first | omega | (simp only [len_new, len_put, len_kill]; omega)) only [↓ypre, ypost, ↓reduceIte, Nat.reduceEqDiff, Nat.reduceAdd, Nat.reduceSub, Nat.reduceLeDiff, Nat.zero_add, Nat.sub_zero, ynew]); try simp only [yback])
    exact hQ _ _ (p1.trans p2) (.inl ⟨rfl, rfl⟩)
  | true =>
    rw [h1, if_pos rfl] at hQ
    have pf := isPrg_facts h1
    have no : ¬ rpOK x ns → ∀ h', h <+: h' → Q (.tuple #[.slice none 0 0, I64 2]) h' := fun hn h' p => by
      rw [if_neg hn] at hQ
      exact hQ _ _ p (.inl ⟨rfl, rfl⟩)
    have p12 := p1.trans p2
    ((try simp (maxSteps := 3000000) (dsimp := false) (disch := first | omega | (simp only [len_new, len_put, len_kill]; omega)) only [↓ypre, ypost, ↓reduceIte, Nat.reduceEqDiff, Nat.reduceAdd, Nat.reduceSub, Nat.reduceLeDiff, Nat.zero_add, Nat.sub_zero, ynew, rd1_of hb2]); try simp only [yback])
    refine s_l05Numbers (hu.pre p12) hm pf.p ?_
    by_cases h3 : (allIn x.p ns && decide ((ns.length : Int) = x.n)) = true
    case neg =>
      rw [Bool.not_eq_true] at h3
      ((try simp (maxSteps := 3000000) (dsimp := false) (disch := first | omega | (simp only [len_new, len_put, len_kill]; omega)) only [↓ypre, ypost, ↓reduceIte, Nat.reduceEqDiff, Nat.reduceAdd, Nat.reduceSub, Nat.reduceLeDiff, Nat.zero_add, Nat.sub_zero, ynew, h3]); try simp only [yback])
      refine no (fun q => ?_) _ p12
      rw [q.1, q.2] at h3
      simp at h3
    rw [h3]
    rw [Bool.and_eq_true, decide_eq_true_eq] at h3
    rw [if_pos (show rpOK x ns from h3)] at hQ
    ((try simp (maxSteps := 3000000) (dsimp := false) (disch := first | omega | (simp only [len_new, len_put, len_kill]; omega)) only [↓ypre, ypost, ↓reduceIte, Nat.reduceEqDiff, Nat.reduceAdd, Nat.reduceSub, Nat.reduceLeDiff, Nat.zero_add, Nat.sub_zero, ynew, rdn_of hb2]); try simp only [yback])
    refine s_run (hv.pre p12) pf (hu.pre p12) h3.1 h3.2 fun n full H3 hn p3 o => ?_
    ((try simp (maxSteps := 3000000) (dsimp := false) (disch := first | omega | (simp only [len_new, len_put, len_kill]; omega)) only [↓ypre, ypost, ↓reduceIte, Nat.reduceEqDiff, Nat.reduceAdd, Nat.reduceSub, Nat.reduceLeDiff, Nat.zero_add, Nat.sub_zero, ynew]); try simp only [yback])
    exact hQ _ _ (p12.trans p3) (o.ownR (by have := pre_len p12; omega))
theorem i_RunProgram {v w u : Value} {x : Prg} {ns : List Int} {h : AH} {Q : Value → AH → Prop} (hv : PrgR h v w x) (hl : SmallP x) (hu : Ints h u ns) (hm : (ns.length : Int) ≤ 1048576)
    (hQ : ∀ v' h', h <+: h' → OwnR h h' v' (rpR x ns).1 → Q (.tuple #[v', I64 (rpR x ns).2]) h') : WF S 37 [prgV x v w, u] h Q := by
  refine WF_fn (fn := c37) rfl rfl ?_
  unfold c37
  ((try simp (maxSteps := 3000000) (dsimp := false) (disch := first | omega | (simp only [len_new, len_put, len_kill]; omega)) only [↓ypre, ypost, ↓reduceIte, Nat.reduceEqDiff, Nat.reduceAdd, Nat.reduceSub, Nat.reduceLeDiff, Nat.zero_add, Nat.sub_zero, ynew, prgV, hv.1.one, hv.2.one]); try simp only [yback])
  generalize hH1 : AH.new h _ = H1
  obtain ⟨hb1, p1, n1⟩ := new_facts hH1
  ((try simp (maxSteps := 3000000) (dsimp := false) (disch := first | omega | (simp only [len_new, len_put, len_kill]; omega)) only [↓ypre, ypost, ↓reduceIte, Nat.reduceEqDiff, Nat.reduceAdd, Nat.reduceSub, Nat.reduceLeDiff, Nat.zero_add, Nat.sub_zero, ynew, rdn_of hb1]); try simp only [yback])
  refine i_IsPrg (hv.pre p1) hl fun H2 p2 => ?_
  have hb2 := pre_get p2 hb1
  unfold rpR at hQ
  cases h1 : isPrg x with
  | false =>
    rw [h1, if_neg (by decide)] at hQ
    ((try simp (maxSteps := 3000000) (dsimp := false) (disch := first | omega | (simp only [len_new, len_put, len_kill]; omega)) only [↓ypre, ypost, ↓reduceIte, Nat.reduceEqDiff, Nat.reduceAdd, Nat.reduceSub, Nat.reduceLeDiff, Nat.zero_add, Nat.sub_zero, ynew]); try simp only [yback])
    exact hQ _ _ (p1.trans p2) (.inl ⟨rfl, rfl⟩)
  | true =>
    rw [h1, if_pos rfl] at hQ
    have pf := isPrg_facts h1
    have no : ¬ rpOK x ns → ∀ h', h <+: h' → Q (.tuple #[.slice none 0 0, I64 2]) h' := fun hn h' p => by
      rw [if_neg hn] at hQ
      exact hQ _ _ p (.inl ⟨rfl, rfl⟩)
    have p12 := p1.trans p2
    by_cases h4 : (ns.length : Int) = x.n
    case neg =>
      ((try simp (maxSteps := 3000000) (dsimp := false) (disch := first | omega | (simp only [len_new, len_put, len_kill]; omega)) only [↓ypre, ypost, ↓reduceIte, Nat.reduceEqDiff, Nat.reduceAdd, Nat.reduceSub, Nat.reduceLeDiff, Nat.zero_add, Nat.sub_zero, ynew, rd1_of hb2, hu.len, decide_eq_true (show (ns.length : Int) ≠ x.n from h4)]); try simp only [yback])
      exact no (fun q => h4 q.2) _ p12
    ((try simp (maxSteps := 3000000) (dsimp := false) (disch := first | omega | (simp only [len_new, len_put, len_kill]; omega)) only [↓ypre, ypost, ↓reduceIte, Nat.reduceEqDiff, Nat.reduceAdd, Nat.reduceSub, Nat.reduceLeDiff, Nat.zero_add, Nat.sub_zero, ynew, rd1_of hb2, hu.len, decide_eq_false (show ¬ (ns.length : Int) ≠ x.n from fun y => y h4)]); try simp only [yback])
    refine i_areNumbers (hu.pre p12) hm ?_
    cases h5 : allIn x.p ns with
    | false =>
      ((try simp (maxSteps := 3000000) (dsimp := false) (disch := first | omega | (simp only [len_new, len_put, len_kill]; omega)) only [↓ypre, ypost, ↓reduceIte, Nat.reduceEqDiff, Nat.reduceAdd, Nat.reduceSub, Nat.reduceLeDiff, Nat.zero_add, Nat.sub_zero, ynew]); try simp only [yback])
      exact no (fun q => by rw [q.1] at h5; cases h5) _ p12
    | true =>
    have h3 := And.intro h5 h4
    rw [if_pos (show rpOK x ns from h3)] at hQ
    ((try simp (maxSteps := 3000000) (dsimp := false) (disch := first | omega | (simp only [len_new, len_put, len_kill]; omega)) only [↓ypre, ypost, ↓reduceIte, Nat.reduceEqDiff, Nat.reduceAdd, Nat.reduceSub, Nat.reduceLeDiff, Nat.zero_add, Nat.sub_zero, ynew, rdn_of hb2]); try simp only [yback])
    refine i_run (hv.pre p12) pf (hu.pre p12) h3.1 h3.2 fun n full H3 hn p3 o => ?_
    ((try simp (maxSteps := 3000000) (dsimp := false) (disch := first | omega | (simp only [len_new, len_put, len_kill]; omega)) only [↓ypre, ypost, ↓reduceIte, Nat.reduceEqDiff, Nat.reduceAdd, Nat.reduceSub, Nat.reduceLeDiff, Nat.zero_add, Nat.sub_zero, ynew]); try simp only [yback])
    exact hQ _ _ (p12.trans p3) (o.ownR (by have := pre_len p12; omega))

/-! ### DepthsOf -/
def mxI (a c : Int) : Int := if c > a then c else a
def depS (st : List (List Int)) (n : Nat) : Nat → List Int
  | 0 => List.replicate n 0
  | i + 1 => depS st n i ++ [1 + mxI ((depS st n i).getD (nq (st.getD i []) 0) 0) ((depS st n i).getD (nq (st.getD i []) 1) 0)]
theorem depS_len {st : List (List Int)} {n : Nat} : ∀ {i : Nat}, (depS st n i).length = n + i
  | 0 => by simp [depS]
  | i + 1 => by simp [depS, depS_len (i := i)]; omega
theorem depS_in {st : List (List Int)} {n : Nat} : ∀ {i j : Nat}, 0 ≤ (depS st n i).getD j 0 ∧ (depS st n i).getD j 0 ≤ i
  | 0, j => by
    simp only [depS, List.getD_eq_getElem?_getD, List.getElem?_replicate]
    split <;> simp
  | i + 1, j => by
    unfold depS
    by_cases h : j < (depS st n i).length
    · rw [getD_app_l h]
      have := depS_in (st := st) (n := n) (i := i) (j := j)
      omega
    · rw [getD_app_r (by omega)]
      have h1 := depS_in (st := st) (n := n) (i := i) (j := nq (st.getD i []) 0)
      have h2 := depS_in (st := st) (n := n) (i := i) (j := nq (st.getD i []) 1)
      by_cases h0 : j - (depS st n i).length = 0
      · rw [h0]
        show 0 ≤ 1 + mxI _ _ ∧ 1 + mxI _ _ ≤ _
        unfold mxI
        split <;> omega
      · rw [List.getD_eq_getElem?_getD, List.getElem?_eq_none (by simp; omega)]
        simp
        omega
def depO (out : List (List Int)) (D : List Int) : Nat → List Int
  | 0 => []
  | i + 1 => depO out D i ++ [if (out.getD i []).getD 1 0 = 0 then 0 else D.getD (nq (out.getD i []) 0) 0]
theorem depO_len {out : List (List Int)} {D : List Int} : ∀ {i : Nat}, (depO out D i).length = i
  | 0 => rfl
  | i + 1 => by simp [depO, depO_len (i := i)]
def dpR (x : Prg) : List Int × Int := if isPrg x = true then (depO x.out (depS x.st x.n.toNat x.st.length) x.out.length, 0) else ([], 1)
theorem dpR_small (x : Prg) : SmallS (dpR x).1 := by
  unfold dpR SmallS
  split
  · rename_i h
    have := (isPrg_facts h).out
    rw [depO_len]
    omega
  · simp
theorem s_DepthsOf {v w : Value} {x : Prg} {h : AH} {Q : Value → AH → Prop} (hv : PrgR h v w x) (hl : SmallP x)
    (hQ : ∀ v' h', h <+: h' → OwnR h h' v' (dpR x).1 → Q (.tuple #[v', I64 (dpR x).2]) h') : WF S 27 [prgV x v w] h Q := by
  refine WF_fn (fn := c27) rfl rfl ?_
  unfold c27
  ((try simp (maxSteps := 3000000) (dsimp := false) (disch := first | omega | (simp only [len_new, len_put, len_kill]; omega)) only [↓ypre, ypost, ↓reduceIte, Nat.reduceEqDiff, Nat.reduceAdd, Nat.reduceSub, Nat.reduceLeDiff, Nat.zero_add, Nat.sub_zero, ynew, prgV, hv.1.one, hv.2.one]); try simp only [yback])
  generalize hH1 : AH.new h _ = H1
  obtain ⟨hb1, p1, n1⟩ := new_facts hH1
  ((try simp (maxSteps := 3000000) (dsimp := false) (disch := first | omega | (simp only [len_new, len_put, len_kill]; omega)) only [↓ypre, ypost, ↓reduceIte, Nat.reduceEqDiff, Nat.reduceAdd, Nat.reduceSub, Nat.reduceLeDiff, Nat.zero_add, Nat.sub_zero, ynew, rdn_of hb1]); try simp only [yback])
  refine s_IsPrg (hv.pre p1) hl fun H2 p2 => ?_
  have hb2 := pre_get p2 hb1
  unfold dpR at hQ
  cases h1 : isPrg x with
  | false =>
    rw [h1, if_neg (by decide)] at hQ
    ((try simp (maxSteps := 3000000) (dsimp := false) (disch := first | omega | (simp only [len_new, len_put, len_kill]; omega)) only [↓ypre, ypost, ↓reduceIte, Nat.reduceEqDiff, Nat.reduceAdd, Nat.reduceSub, Nat.reduceLeDiff, Nat.zero_add, Nat.sub_zero, ynew]); try simp only [yback])
    exact hQ _ _ (p1.trans p2) (.inl ⟨rfl, rfl⟩)
  | true =>
    rw [h1, if_pos rfl] at hQ
    have pf := isPrg_facts h1
    have fp := pf.p
    have fn := pf.n
    have fst := pf.st
    have fout := pf.out
    have p12 := p1.trans p2
    obtain ⟨N, hN⟩ : ∃ N : Nat, x.n = N := ⟨x.n.toNat, by omega⟩
    have hNt : x.n.toNat = N := by omega
    rw [hNt] at hQ
    ((try simp (maxSteps := 3000000) (dsimp := false) (disch := first | omega | (simp only [len_new, len_put, len_kill]; omega)) only [↓ypre, ypost, ↓reduceIte, Nat.reduceEqDiff, Nat.reduceAdd, Nat.reduceSub, Nat.reduceLeDiff, Nat.zero_add, Nat.sub_zero, ynew, rd1_of hb2]); try simp only [yback])
    refine ⟨by omega, ?_⟩
    rw [hNt, zrep_ints]
    generalize hH3 : AH.new H2 _ = H3
    obtain ⟨hb3, p3, n3⟩ := new_facts hH3
    have lv : Lst H3 H2.length (depS x.st N 0) true := hb3
    have sl0 : (Value.slice (some ⟨H2.length, 0, none⟩) N 1) = sl H2.length (depS x.st N 0).length := by rw [depS_len]; rfl
    rw [sl0]
    ((try simp (maxSteps := 3000000) (dsimp := false) (disch := first | omega | (simp only [len_new, len_put, len_kill]; omega)) only [↓ypre, ypost, ↓reduceIte, Nat.reduceEqDiff, Nat.reduceAdd, Nat.reduceSub, Nat.reduceLeDiff, Nat.zero_add, Nat.sub_zero, ynew]); try simp only [yback])
    generalize hH4 : AH.new H3 _ = H4
    obtain ⟨hb4, p4, n4⟩ := new_facts hH4
    have lo : Lst H4 H3.length [] true := hb4
    have hb4' := pre_get (p3.trans p4) hb2
    refine WC_loop_inv (fun m f K1 => ∃ (i : Nat) (kv : Nat) (fu : Bool), m = x.st.length - i ∧ i ≤ x.st.length ∧ f 1 = .pointer (some ⟨h.length, 0, none⟩) ∧ f 4 = sl kv (depS x.st N i).length ∧ f 5 = sl H3.length 0 ∧ f 6 = I64 i ∧ (H2 <+: K1) ∧ (Lst K1 kv (depS x.st N i) fu) ∧ (Lst K1 H3.length [] true) ∧ (H2.length ≤ kv ∧ kv ≠ H3.length)) ?_ (x.st.length - 0) _ _ ⟨0, H2.length, true, rfl, by omega, (by first | rfl | (simp [upd_apply]; done)), (by first | rfl | (simp [upd_apply]; done)), (by first | rfl | (simp [upd_apply]; done)), (by first | rfl | (simp [upd_apply]; done)), p3.trans p4, lv.pre p4, lo, ⟨Nat.le_refl _, by omega⟩⟩
    rintro m f K1 ⟨i, kv, fu, rfl, hi, f1, f4, f5, f6, pp, lv, lo, hk⟩
    have hbK := pre_get pp hb2
    have ltK := get_lt hbK
    have hvK := hv.pre (p12.trans pp)
    have ltv := lv.lt
    have vl := depS_len (st := x.st) (n := N) (i := i)
    by_cases hlt : (i : Int) < x.st.length
    · have hi' : i < x.st.length := by omega
      obtain ⟨n, off, hix, hrn⟩ := hvK.1.rdw hi'
      obtain ⟨n', off', hix', hrn', hr1⟩ := hvK.1.at hi'
      obtain ⟨a, b, d, hq⟩ := all3 (hvK.1.wid hi')
      have r0 := hr1 0 (by omega)
      have r1 := hr1 1 (by omega)
      rw [hq, cel_3] at hrn
      rw [hq] at r0 r1
      simp only [Nat.add_zero, List.getD_cons_zero, List.getD_cons_succ] at r0 r1
      have s3 := pf.st3 hi' hq
      have hA := depS_in (st := x.st) (n := N) (i := i) (j := a.toNat)
      have hB := depS_in (st := x.st) (n := N) (i := i) (j := b.toNat)
      have ixa := Lst.ix (n := kv) (j := a) (len := (depS x.st N i).length) (by omega)
      have ixb := Lst.ix (n := kv) (j := b) (len := (depS x.st N i).length) (by omega)
      have rda := lv.rd (j := a.toNat) (by omega)
      have rdb := lv.rd (j := b.toNat) (by omega)
      have emx : ∀ a c : Int, (if c > a then c else a) = mxI a c := fun a c => rfl
      have bmx : 0 ≤ mxI ((depS x.st N i).getD a.toNat 0) ((depS x.st N i).getD b.toNat 0) ∧ mxI ((depS x.st N i).getD a.toNat 0) ((depS x.st N i).getD b.toNat 0) ≤ 900 := by unfold mxI; split <;> omega
      have ev : depS x.st N (i + 1) = depS x.st N i ++ [1 + mxI ((depS x.st N i).getD a.toNat 0) ((depS x.st N i).getD b.toNat 0)] := by
        rw [depS, hq]
        rfl
      ((try simp (maxSteps := 3000000) (dsimp := false) (disch := first | omega | (simp only [len_new, len_put, len_kill]; omega)) only [↓ypre, ypost, ↓reduceIte, Nat.reduceEqDiff, Nat.reduceAdd, Nat.reduceSub, Nat.reduceLeDiff, Nat.zero_add, Nat.sub_zero, ynew, f1, f4, f5, f6, Nat.add_zero, rd1_of hbK, hvK.1.len, decide_eq_true hlt, hix', r0, r1, ixa, ixb, rda, rdb, ↓yWX_mmx, mmx_max, emx, wrap64_in]); try simp only [yback])
      refine lv.app (by omega) fun H5 l5 pre5 own5 lst5 lv5 => ?_
      ((try simp (maxSteps := 3000000) (dsimp := false) (disch := first | omega | (simp only [len_new, len_put, len_kill]; omega)) only [↓ypre, ypost, ↓reduceIte, Nat.reduceEqDiff, Nat.reduceAdd, Nat.reduceSub, Nat.reduceLeDiff, Nat.zero_add, Nat.sub_zero, ynew, f1, f4, f5, f6, wrap64_in]); try simp only [yback])
      rw [← ev] at lv5
      refine InvQ_go (x.st.length - (i + 1)) (by omega) ⟨(i + 1), (K1.length + 1), false, rfl, by omega, (by first | rfl | exact f1 | (simp only [upd_apply]; rfl) | (show I64 _ = _; congr 1; omega)), (by show sl _ _ = _; rw [ev]), (by first | rfl | exact f5 | (simp only [upd_apply]; rfl) | (show I64 _ = _; congr 1; omega)), (by first | rfl | exact f6 | (simp only [upd_apply]; rfl) | (show I64 _ = _; congr 1; omega)), (pre5 _ hk.1 pp), lv5, (lst5 _ _ _ (fun e => hk.2 e.symm) lo), ⟨by have := pre_len pp; omega, by have := lo.lt; omega⟩⟩
    have ei : i = x.st.length := by omega
    subst ei
    ((try simp (maxSteps := 3000000) (dsimp := false) (disch := first | omega | (simp only [len_new, len_put, len_kill]; omega)) only [↓ypre, ypost, ↓reduceIte, Nat.reduceEqDiff, Nat.reduceAdd, Nat.reduceSub, Nat.reduceLeDiff, Nat.zero_add, Nat.sub_zero, ynew, f1, f4, f5, f6, rd1_of hbK, hvK.1.len, hvK.2.len, decide_eq_false hlt]); try simp only [yback])
    have va : ∀ j : Nat, 0 ≤ (depS x.st N x.st.length).getD j 0 ∧ (depS x.st N x.st.length).getD j 0 ≤ x.st.length := fun j => depS_in
    generalize depS x.st N x.st.length = vs at *
    have lo' : Lst K1 H3.length (depO x.out vs 0) true := lo
    refine WC_loop_inv (fun m f K2 => ∃ (i : Nat) (ko : Nat) (fo : Bool), m = x.out.length - i ∧ i ≤ x.out.length ∧ f 1 = .pointer (some ⟨h.length, 0, none⟩) ∧ f 4 = sl kv vs.length ∧ f 5 = sl ko (depO x.out vs i).length ∧ f 7 = I64 i ∧ (H2 <+: K2) ∧ (Lst K2 kv vs fu) ∧ (Lst K2 ko (depO x.out vs i) fo) ∧ (H2.length ≤ ko ∧ kv ≠ ko)) ?_ (x.out.length - 0) _ _ ⟨0, H3.length, true, rfl, by omega, (by first | rfl | exact f1 | (simp [upd_apply]; done)), (by first | rfl | exact f4 | (simp [upd_apply]; done)), (by first | rfl | exact f5 | (simp [upd_apply]; done)), (by first | rfl | (simp [upd_apply]; done)), pp, lv, lo', ⟨by omega, hk.2⟩⟩
    rintro m f K2 ⟨i, ko, fo, rfl, hi, f1, f4, f5, f7, pp, lv, lo, hk⟩
    have hbK := pre_get pp hb2
    have ltK := get_lt hbK
    have hvK := hv.pre (p12.trans pp)
    have ltv := lv.lt
    have lto := lo.lt
    have ol := depO_len (out := x.out) (D := vs) (i := i)
    by_cases hlt : (i : Int) < x.out.length
    · have hi' : i < x.out.length := by omega
      obtain ⟨n, off, hix, hrn⟩ := hvK.2.rdw hi'
      obtain ⟨n', off', hix', hrn', hr1⟩ := hvK.2.at hi'
      obtain ⟨a, b, hq⟩ := all2 (hvK.2.wid hi')
      have r0 := hr1 0 (by omega)
      have r1 := hr1 1 (by omega)
      rw [hq, cel_2] at hrn
      rw [hq] at r0 r1
      simp only [Nat.add_zero, List.getD_cons_zero, List.getD_cons_succ] at r0 r1
      have s2 := pf.out2 hi' hq
      have ixa := Lst.ix (n := kv) (j := a) (len := vs.length) (by omega)
      have rda := lv.rd (j := a.toNat) (by omega)
      by_cases hb0 : b = 0
      · have ev : depO x.out vs (i + 1) = depO x.out vs i ++ [0] := by
          rw [depO, hq]
          show depO x.out vs i ++ [if b = 0 then 0 else _] = _
          rw [if_pos hb0]
        ((try simp (maxSteps := 3000000) (dsimp := false) (disch := first | omega | (simp only [len_new, len_put, len_kill]; omega)) only [↓ypre, ypost, ↓reduceIte, Nat.reduceEqDiff, Nat.reduceAdd, Nat.reduceSub, Nat.reduceLeDiff, Nat.zero_add, Nat.sub_zero, ynew, f1, f4, f5, f7, Nat.add_zero, rd1_of hbK, hvK.2.len, decide_eq_true hlt, hix', r0, r1, ixa, rda, wrap64_in, decide_eq_true hb0]); try simp only [yback])
        refine lo.app (by omega) fun H5 l5 pre5 own5 lst5 lo5 => ?_
        ((try simp (maxSteps := 3000000) (dsimp := false) (disch := first | omega | (simp only [len_new, len_put, len_kill]; omega)) only [↓ypre, ypost, ↓reduceIte, Nat.reduceEqDiff, Nat.reduceAdd, Nat.reduceSub, Nat.reduceLeDiff, Nat.zero_add, Nat.sub_zero, ynew, f1, f4, f5, f7, wrap64_in]); try simp only [yback])
        rw [← ev] at lo5
        refine InvQ_go (x.out.length - (i + 1)) (by omega) ⟨(i + 1), (K2.length + 1), false, rfl, by omega, (by first | rfl | exact f1 | (simp only [upd_apply]; rfl) | (show I64 _ = _; congr 1; omega)), (by first | rfl | exact f4 | (simp only [upd_apply]; rfl) | (show I64 _ = _; congr 1; omega)), (by show sl _ _ = _; rw [ev]), (by first | rfl | exact f7 | (simp only [upd_apply]; rfl) | (show I64 _ = _; congr 1; omega)), (pre5 _ hk.1 pp), (lst5 _ _ _ hk.2 lv), lo5, ⟨by have := pre_len pp; omega, by omega⟩⟩
      · have ev : depO x.out vs (i + 1) = depO x.out vs i ++ [vs.getD a.toNat 0] := by
          rw [depO, hq]
          show depO x.out vs i ++ [if b = 0 then 0 else vs.getD a.toNat 0] = _
          rw [if_neg hb0]
        ((try simp (maxSteps := 3000000) (dsimp := false) (disch := first | omega | (simp only [len_new, len_put, len_kill]; omega)) only [↓ypre, ypost, ↓reduceIte, Nat.reduceEqDiff, Nat.reduceAdd, Nat.reduceSub, Nat.reduceLeDiff, Nat.zero_add, Nat.sub_zero, ynew, f1, f4, f5, f7, Nat.add_zero, rd1_of hbK, hvK.2.len, decide_eq_true hlt, hix', r0, r1, ixa, rda, wrap64_in, decide_eq_false hb0]); try simp only [yback])
        refine lo.app (by omega) fun H5 l5 pre5 own5 lst5 lo5 => ?_
        ((try simp (maxSteps := 3000000) (dsimp := false) (disch := first | omega | (simp only [len_new, len_put, len_kill]; omega)) only [↓ypre, ypost, ↓reduceIte, Nat.reduceEqDiff, Nat.reduceAdd, Nat.reduceSub, Nat.reduceLeDiff, Nat.zero_add, Nat.sub_zero, ynew, f1, f4, f5, f7, wrap64_in]); try simp only [yback])
        rw [← ev] at lo5
        refine InvQ_go (x.out.length - (i + 1)) (by omega) ⟨(i + 1), (K2.length + 1), false, rfl, by omega, (by first | rfl | exact f1 | (simp only [upd_apply]; rfl) | (show I64 _ = _; congr 1; omega)), (by first | rfl | exact f4 | (simp only [upd_apply]; rfl) | (show I64 _ = _; congr 1; omega)), (by show sl _ _ = _; rw [ev]), (by first | rfl | exact f7 | (simp only [upd_apply]; rfl) | (show I64 _ = _; congr 1; omega)), (pre5 _ hk.1 pp), (lst5 _ _ _ hk.2 lv), lo5, ⟨by have := pre_len pp; omega, by omega⟩⟩
    have ei : i = x.out.length := by omega
    subst ei
    ((try simp (maxSteps := 3000000) (dsimp := false) (disch := first | omega | (simp only [len_new, len_put, len_kill]; omega)) only [↓ypre, ypost, ↓reduceIte, Nat.reduceEqDiff, Nat.reduceAdd, Nat.reduceSub, Nat.reduceLeDiff, Nat.zero_add, Nat.sub_zero, ynew, f1, f4, f5, f7, rd1_of hbK, hvK.2.len, decide_eq_false hlt]); try simp only [yback])
    exact hQ _ _ (p12.trans pp) (lo.ownR (by have := pre_len p12; omega))
theorem i_DepthsOf {v w : Value} {x : Prg} {h : AH} {Q : Value → AH → Prop} (hv : PrgR h v w x) (hl : SmallP x)
    (hQ : ∀ v' h', h <+: h' → OwnR h h' v' (dpR x).1 → Q (.tuple #[v', I64 (dpR x).2]) h') : WF S 29 [prgV x v w] h Q := by
  refine WF_fn (fn := c29) rfl rfl ?_
  unfold c29
  ((try simp (maxSteps := 3000000) (dsimp := false) (disch := first | omega | (simp only [len_new, len_put, len_kill]; omega)) only [↓ypre, ypost, ↓reduceIte, Nat.reduceEqDiff, Nat.reduceAdd, Nat.reduceSub, Nat.reduceLeDiff, Nat.zero_add, Nat.sub_zero, ynew, prgV, hv.1.one, hv.2.one]); try simp only [yback])
  generalize hH1 : AH.new h _ = H1
  obtain ⟨hb1, p1, n1⟩ := new_facts hH1
  ((try simp (maxSteps := 3000000) (dsimp := false) (disch := first | omega | (simp only [len_new, len_put, len_kill]; omega)) only [↓ypre, ypost, ↓reduceIte, Nat.reduceEqDiff, Nat.reduceAdd, Nat.reduceSub, Nat.reduceLeDiff, Nat.zero_add, Nat.sub_zero, ynew, rdn_of hb1]); try simp only [yback])
  refine i_IsPrg (hv.pre p1) hl fun H2 p2 => ?_
  have hb2 := pre_get p2 hb1
  unfold dpR at hQ
  cases h1 : isPrg x with
  | false =>
    rw [h1, if_neg (by decide)] at hQ
    ((try simp (maxSteps := 3000000) (dsimp := false) (disch := first | omega | (simp only [len_new, len_put, len_kill]; omega)) only [↓ypre, ypost, ↓reduceIte, Nat.reduceEqDiff, Nat.reduceAdd, Nat.reduceSub, Nat.reduceLeDiff, Nat.zero_add, Nat.sub_zero, ynew]); try simp only [yback])
    exact hQ _ _ (p1.trans p2) (.inl ⟨rfl, rfl⟩)
  | true =>
    rw [h1, if_pos rfl] at hQ
    have pf := isPrg_facts h1
    have fp := pf.p
    have fn := pf.n
    have fst := pf.st
    have fout := pf.out
    have p12 := p1.trans p2
    obtain ⟨N, hN⟩ : ∃ N : Nat, x.n = N := ⟨x.n.toNat, by omega⟩
    have hNt : x.n.toNat = N := by omega
    rw [hNt] at hQ
    ((try simp (maxSteps := 3000000) (dsimp := false) (disch := first | omega | (simp only [len_new, len_put, len_kill]; omega)) only [↓ypre, ypost, ↓reduceIte, Nat.reduceEqDiff, Nat.reduceAdd, Nat.reduceSub, Nat.reduceLeDiff, Nat.zero_add, Nat.sub_zero, ynew, rd1_of hb2]); try simp only [yback])
    refine ⟨by omega, ?_⟩
    rw [hNt, zrep_ints]
    generalize hH3 : AH.new H2 _ = H3
    obtain ⟨hb3, p3, n3⟩ := new_facts hH3
    have lv : Lst H3 H2.length (depS x.st N 0) true := hb3
    have sl0 : (Value.slice (some ⟨H2.length, 0, none⟩) N 1) = sl H2.length (depS x.st N 0).length := by rw [depS_len]; rfl
    rw [sl0]
    ((try simp (maxSteps := 3000000) (dsimp := false) (disch := first | omega | (simp only [len_new, len_put, len_kill]; omega)) only [↓ypre, ypost, ↓reduceIte, Nat.reduceEqDiff, Nat.reduceAdd, Nat.reduceSub, Nat.reduceLeDiff, Nat.zero_add, Nat.sub_zero, ynew, rd1_of (pre_get p3 hb2), hv.1.len]); try simp only [yback])
    refine WC_loop_inv (fun m f K1 => ∃ (i : Nat) (kv : Nat) (fu : Bool), m = x.st.length - i ∧ i ≤ x.st.length ∧ f 1 = .pointer (some ⟨h.length, 0, none⟩) ∧ f 4 = sl kv (depS x.st N i).length ∧ f 17 = v ∧ f 18 = I64 x.st.length ∧ f 19 = I64 i ∧ (H2 <+: K1) ∧ (Lst K1 kv (depS x.st N i) fu) ∧ (H2.length ≤ kv)) ?_ (x.st.length - 0) _ _ ⟨0, H2.length, true, rfl, by omega, (by first | rfl | (simp [upd_apply]; done)), (by first | rfl | (simp [upd_apply]; done)), (by first | rfl | (simp [upd_apply]; done)), (by first | rfl | (simp [upd_apply]; done)), (by first | rfl | (simp [upd_apply]; done)), p3, lv, Nat.le_refl _⟩
    rintro m f K1 ⟨i, kv, fu, rfl, hi, f1, f4, f17, f18, f19, pp, lv, hk⟩
    have hbK := pre_get pp hb2
    have ltK := get_lt hbK
    have hvK := hv.pre (p12.trans pp)
    have ltv := lv.lt
    have vl := depS_len (st := x.st) (n := N) (i := i)
    by_cases hlt : (i : Int) < x.st.length
    · have hi' : i < x.st.length := by omega
      obtain ⟨n, off, hix, hrn⟩ := hvK.1.rdw hi'
      obtain ⟨n', off', hix', hrn', hr1⟩ := hvK.1.at hi'
      obtain ⟨a, b, d, hq⟩ := all3 (hvK.1.wid hi')
      have r0 := hr1 0 (by omega)
      have r1 := hr1 1 (by omega)
      rw [hq, cel_3] at hrn
      rw [hq] at r0 r1
      simp only [Nat.add_zero, List.getD_cons_zero, List.getD_cons_succ] at r0 r1
      have s3 := pf.st3 hi' hq
      have hA := depS_in (st := x.st) (n := N) (i := i) (j := a.toNat)
      have hB := depS_in (st := x.st) (n := N) (i := i) (j := b.toNat)
      have ixa := Lst.ix (n := kv) (j := a) (len := (depS x.st N i).length) (by omega)
      have ixb := Lst.ix (n := kv) (j := b) (len := (depS x.st N i).length) (by omega)
      have rda := lv.rd (j := a.toNat) (by omega)
      have rdb := lv.rd (j := b.toNat) (by omega)
      have emx : ∀ a c : Int, (if c > a then c else a) = mxI a c := fun a c => rfl
      have bmx : 0 ≤ mxI ((depS x.st N i).getD a.toNat 0) ((depS x.st N i).getD b.toNat 0) ∧ mxI ((depS x.st N i).getD a.toNat 0) ((depS x.st N i).getD b.toNat 0) ≤ 900 := by unfold mxI; split <;> omega
      have ev : depS x.st N (i + 1) = depS x.st N i ++ [1 + mxI ((depS x.st N i).getD a.toNat 0) ((depS x.st N i).getD b.toNat 0)] := by
        rw [depS, hq]
        rfl
      ((try simp (maxSteps := 3000000) (dsimp := false) (disch := first | omega | (simp only [len_new, len_put, len_kill]; omega)) only [↓ypre, ypost, ↓reduceIte, Nat.reduceEqDiff, Nat.reduceAdd, Nat.reduceSub, Nat.reduceLeDiff, Nat.zero_add, Nat.sub_zero, ynew, f1, f4, f17, f18, f19, Nat.add_zero, rd1_of hbK, hvK.1.len, decide_eq_true hlt, hix, hrn, ixa, ixb, rda, rdb, ↓yWX_mmx, mmx_max, emx, wrap64_in]); try simp only [yback])
      generalize hH4 : AH.new K1 _ = H4
      obtain ⟨hb4, p4, n4⟩ := new_facts hH4
      refine (lv.pre p4).app (by omega) fun H5 l5 pre5 own5 lst5 lv5 => ?_
      ((try simp (maxSteps := 3000000) (dsimp := false) (disch := first | omega | (simp only [len_new, len_put, len_kill]; omega)) only [↓ypre, ypost, ↓reduceIte, Nat.reduceEqDiff, Nat.reduceAdd, Nat.reduceSub, Nat.reduceLeDiff, Nat.zero_add, Nat.sub_zero, ynew, f1, f4, f17, f18, f19, wrap64_in]); try simp only [yback])
      rw [← ev] at lv5
      refine InvQ_go (x.st.length - (i + 1)) (by omega) ⟨(i + 1), (H4.length + 1), false, rfl, by omega, (by first | rfl | exact f1 | (simp only [upd_apply]; rfl) | (show I64 _ = _; congr 1; omega)), (by show sl _ _ = _; rw [ev]), (by first | rfl | exact f17 | (simp only [upd_apply]; rfl) | (show I64 _ = _; congr 1; omega)), (by first | rfl | exact f18 | (simp only [upd_apply]; rfl) | (show I64 _ = _; congr 1; omega)), (by first | rfl | exact f19 | (simp only [upd_apply]; rfl) | (show I64 _ = _; congr 1; omega)), (pre5 _ hk (pp.trans p4)), lv5, (by have := pre_len pp; omega)⟩
    have ei : i = x.st.length := by omega
    subst ei
    ((try simp (maxSteps := 3000000) (dsimp := false) (disch := first | omega | (simp only [len_new, len_put, len_kill]; omega)) only [↓ypre, ypost, ↓reduceIte, Nat.reduceEqDiff, Nat.reduceAdd, Nat.reduceSub, Nat.reduceLeDiff, Nat.zero_add, Nat.sub_zero, ynew, f1, f4, f17, f18, f19, rd1_of hbK, hvK.1.len, hvK.2.len, decide_eq_false hlt]); try simp only [yback])
    have va : ∀ j : Nat, 0 ≤ (depS x.st N x.st.length).getD j 0 ∧ (depS x.st N x.st.length).getD j 0 ≤ x.st.length := fun j => depS_in
    generalize depS x.st N x.st.length = vs at *
    generalize hH6 : AH.new K1 _ = H6
    obtain ⟨hb6, p6, n6⟩ := new_facts hH6
    have lo' : Lst H6 K1.length (depO x.out vs 0) true := hb6
    refine WC_loop_inv (fun m f K2 => ∃ (i : Nat) (ko : Nat) (fo : Bool), m = x.out.length - i ∧ i ≤ x.out.length ∧ f 1 = .pointer (some ⟨h.length, 0, none⟩) ∧ f 4 = sl kv vs.length ∧ f 7 = sl ko (depO x.out vs i).length ∧ f 41 = w ∧ f 42 = I64 x.out.length ∧ f 43 = I64 i ∧ (H2 <+: K2) ∧ (Lst K2 kv vs fu) ∧ (Lst K2 ko (depO x.out vs i) fo) ∧ (H2.length ≤ ko ∧ kv ≠ ko)) ?_ (x.out.length - 0) _ _ ⟨0, K1.length, true, rfl, by omega, (by first | rfl | exact f1 | (simp [upd_apply]; done)), (by first | rfl | exact f4 | (simp [upd_apply]; done)), (by first | rfl | (simp [upd_apply]; done)), (by first | rfl | (simp [upd_apply]; done)), (by first | rfl | (simp [upd_apply]; done)), (by first | rfl | (simp [upd_apply]; done)), pp.trans p6, lv.pre p6, lo', ⟨by have := pre_len pp; omega, by omega⟩⟩
    rintro m f K2 ⟨i, ko, fo, rfl, hi, f1, f4, f7, f41, f42, f43, pp, lv, lo, hk⟩
    have hbK := pre_get pp hb2
    have ltK := get_lt hbK
    have hvK := hv.pre (p12.trans pp)
    have ltv := lv.lt
    have lto := lo.lt
    have ol := depO_len (out := x.out) (D := vs) (i := i)
    by_cases hlt : (i : Int) < x.out.length
    · have hi' : i < x.out.length := by omega
      obtain ⟨n, off, hix, hrn⟩ := hvK.2.rdw hi'
      obtain ⟨n', off', hix', hrn', hr1⟩ := hvK.2.at hi'
      obtain ⟨a, b, hq⟩ := all2 (hvK.2.wid hi')
      have r0 := hr1 0 (by omega)
      have r1 := hr1 1 (by omega)
      rw [hq, cel_2] at hrn
      rw [hq] at r0 r1
      simp only [Nat.add_zero, List.getD_cons_zero, List.getD_cons_succ] at r0 r1
      have s2 := pf.out2 hi' hq
      have ixa := Lst.ix (n := kv) (j := a) (len := vs.length) (by omega)
      have rda := lv.rd (j := a.toNat) (by omega)
      by_cases hb0 : b = 0
      · have ev : depO x.out vs (i + 1) = depO x.out vs i ++ [0] := by
          rw [depO, hq]
          show depO x.out vs i ++ [if b = 0 then 0 else _] = _
          rw [if_pos hb0]
        ((try simp (maxSteps := 3000000) (dsimp := false) (disch := first | omega | (simp only [len_new, len_put, len_kill]; omega)) only [↓ypre, ypost, ↓reduceIte, Nat.reduceEqDiff, Nat.reduceAdd, Nat.reduceSub, Nat.reduceLeDiff, Nat.zero_add, Nat.sub_zero, ynew, f1, f4, f7, f41, f42, f43, Nat.add_zero, rd1_of hbK, hvK.2.len, decide_eq_true hlt, hix, hrn, ixa, rda, wrap64_in, decide_eq_true hb0]); try simp only [yback])
        generalize hH7 : AH.new K2 _ = H7
        obtain ⟨hb7, p7, n7⟩ := new_facts hH7
        refine (lo.pre p7).app (by omega) fun H5 l5 pre5 own5 lst5 lo5 => ?_
        ((try simp (maxSteps := 3000000) (dsimp := false) (disch := first | omega | (simp only [len_new, len_put, len_kill]; omega)) only [↓ypre, ypost, ↓reduceIte, Nat.reduceEqDiff, Nat.reduceAdd, Nat.reduceSub, Nat.reduceLeDiff, Nat.zero_add, Nat.sub_zero, ynew, f1, f4, f7, f41, f42, f43, wrap64_in]); try simp only [yback])
        rw [← ev] at lo5
        refine InvQ_go (x.out.length - (i + 1)) (by omega) ⟨(i + 1), (H7.length + 1), false, rfl, by omega, (by first | rfl | exact f1 | (simp only [upd_apply]; rfl) | (show I64 _ = _; congr 1; omega)), (by first | rfl | exact f4 | (simp only [upd_apply]; rfl) | (show I64 _ = _; congr 1; omega)), (by show sl _ _ = _; rw [ev]), (by first | rfl | exact f41 | (simp only [upd_apply]; rfl) | (show I64 _ = _; congr 1; omega)), (by first | rfl | exact f42 | (simp only [upd_apply]; rfl) | (show I64 _ = _; congr 1; omega)), (by first | rfl | exact f43 | (simp only [upd_apply]; rfl) | (show I64 _ = _; congr 1; omega)), (pre5 _ hk.1 (pp.trans p7)), (lst5 _ _ _ hk.2 (lv.pre p7)), lo5, ⟨by have := pre_len pp; omega, by omega⟩⟩
      · have ev : depO x.out vs (i + 1) = depO x.out vs i ++ [vs.getD a.toNat 0] := by
          rw [depO, hq]
          show depO x.out vs i ++ [if b = 0 then 0 else vs.getD a.toNat 0] = _
          rw [if_neg hb0]
        ((try simp (maxSteps := 3000000) (dsimp := false) (disch := first | omega | (simp only [len_new, len_put, len_kill]; omega)) only [↓ypre, ypost, ↓reduceIte, Nat.reduceEqDiff, Nat.reduceAdd, Nat.reduceSub, Nat.reduceLeDiff, Nat.zero_add, Nat.sub_zero, ynew, f1, f4, f7, f41, f42, f43, Nat.add_zero, rd1_of hbK, hvK.2.len, decide_eq_true hlt, hix, hrn, ixa, rda, wrap64_in, decide_eq_false hb0]); try simp only [yback])
        generalize hH7 : AH.new K2 _ = H7
        obtain ⟨hb7, p7, n7⟩ := new_facts hH7
        refine (lo.pre p7).app (by omega) fun H5 l5 pre5 own5 lst5 lo5 => ?_
        ((try simp (maxSteps := 3000000) (dsimp := false) (disch := first | omega | (simp only [len_new, len_put, len_kill]; omega)) only [↓ypre, ypost, ↓reduceIte, Nat.reduceEqDiff, Nat.reduceAdd, Nat.reduceSub, Nat.reduceLeDiff, Nat.zero_add, Nat.sub_zero, ynew, f1, f4, f7, f41, f42, f43, wrap64_in]); try simp only [yback])
        rw [← ev] at lo5
        refine InvQ_go (x.out.length - (i + 1)) (by omega) ⟨(i + 1), (H7.length + 1), false, rfl, by omega, (by first | rfl | exact f1 | (simp only [upd_apply]; rfl) | (show I64 _ = _; congr 1; omega)), (by first | rfl | exact f4 | (simp only [upd_apply]; rfl) | (show I64 _ = _; congr 1; omega)), (by show sl _ _ = _; rw [ev]), (by first | rfl | exact f41 | (simp only [upd_apply]; rfl) | (show I64 _ = _; congr 1; omega)), (by first | rfl | exact f42 | (simp only [upd_apply]; rfl) | (show I64 _ = _; congr 1; omega)), (by first | rfl | exact f43 | (simp only [upd_apply]; rfl) | (show I64 _ = _; congr 1; omega)), (pre5 _ hk.1 (pp.trans p7)), (lst5 _ _ _ hk.2 (lv.pre p7)), lo5, ⟨by have := pre_len pp; omega, by omega⟩⟩
    have ei : i = x.out.length := by omega
    subst ei
    ((try simp (maxSteps := 3000000) (dsimp := false) (disch := first | omega | (simp only [len_new, len_put, len_kill]; omega)) only [↓ypre, ypost, ↓reduceIte, Nat.reduceEqDiff, Nat.reduceAdd, Nat.reduceSub, Nat.reduceLeDiff, Nat.zero_add, Nat.sub_zero, ynew, f1, f4, f7, f41, f42, f43, rd1_of hbK, hvK.2.len, decide_eq_false hlt]); try simp only [yback])
    exact hQ _ _ (p12.trans pp) (lo.ownR (by have := pre_len p12; omega))
end Go.Proofs.Ytilpnbejpndgpaa.X

/- Marks on programs (printed by wip/tools/mkP5.py). -/
set_option linter.unusedVariables false
set_option linter.unusedSimpArgs false
set_option maxRecDepth 20000
set_option maxHeartbeats 4000000
namespace Go.Proofs.Ytilpnbejpndgpaa.X
open Go Go.RowKit

def mkRow (w : Nat) (k : Int) (i : Nat) : List Int := (List.range w).map fun r => k + ((i * w + r : Nat) : Int)
def mkE (w : Nat) (k : Int) : Nat → List (List Int)
  | 0 => []
  | n + 1 => mkE w k n ++ [mkRow w k n]
theorem mkE_len {w : Nat} {k : Int} : ∀ {n : Nat}, (mkE w k n).length = n
  | 0 => rfl
  | n + 1 => by simp [mkE, mkE_len (n := n)]
theorem mkRow_len {w i : Nat} {k : Int} : (mkRow w k i).length = w := by simp [mkRow]
theorem mkE_get {w i : Nat} {k : Int} : ∀ {n : Nat}, i < n → (mkE w k n).getD i [] = mkRow w k i
  | 0, h => by omega
  | n + 1, h => by
    unfold mkE
    by_cases hi : i < n
    · rw [getD_app_l (by rw [mkE_len]; exact hi), mkE_get hi]
    · have : i = n := by omega
      subst this
      rw [getD_app_r (by rw [mkE_len]; exact Nat.le_refl _), mkE_len, Nat.sub_self]
      rfl
theorem mkE_wid {w n : Nat} {k : Int} : Wid w (mkE w k n) := wid_of fun i hi => by
  rw [mkE_len] at hi
  rw [mkE_get hi, mkRow_len]
theorem mkE_cells {w n : Nat} {k : Int} {c : List Value} (hc : c.length = n * w) (hm : ∀ j, j < n * w → c[j]? = some (I64 (k + (j : Nat)))) (hw : 0 < w) : c = cel .i64 (mkE w k n).flatten := by
  have hf := flat_len (mkE_wid (w := w) (n := n) (k := k))
  rw [mkE_len] at hf
  refine List.ext_getElem? fun j => ?_
  by_cases hj : j < n * w
  · have hi : j / w < n := Nat.div_lt_of_lt_mul (by rw [Nat.mul_comm]; exact hj)
    have hr : j % w < w := Nat.mod_lt _ hw
    have hdm := Nat.div_add_mod j w
    rw [Nat.mul_comm] at hdm
    have hg := flat_get (mkE_wid (w := w) (n := n) (k := k)) (i := j / w) (by rw [mkE_len]; exact hi)
    rw [mkE_get hi] at hg
    have h1 := congrArg (fun l => l[j % w]?) hg
    simp only [List.getElem?_take, hr, if_true, List.getElem?_drop, hdm] at h1
    have h2 : (mkRow w k (j / w))[j % w]? = some (k + ((j : Nat) : Int)) := by
      unfold mkRow
      rw [List.getElem?_map, List.getElem?_range hr, Option.map_some, hdm]
    rw [h2] at h1
    rw [hm j hj]
    unfold cel
    rw [List.getElem?_map, h1]
    rfl
  · rw [List.getElem?_eq_none (by omega), List.getElem?_eq_none (by rw [cel_len]; omega)]
theorem set_step {c : List Value} {g : Nat → Value} {m : Nat} (hm : ∀ j, j < m → c[j]? = some (g j)) (hl : m < c.length) : ∀ j, j < m + 1 → (c.set m (g m))[j]? = some (g j) := fun j hj => by
  rw [List.getElem?_set]
  by_cases h : m = j
  · subst h
    simp [hl]
  · rw [if_neg h]
    exact hm j (by omega)
theorem l_markStepS {v : Value} {L : List (List Int)} {k : Int} {a b : Nat} {h : AH} {Q : Value → AH → Prop} (o : InE .i64 3 a b h v L) (hl : SmallE L) (hk : 0 ≤ k ∧ k ≤ 549755813888)
    (hQ : ∀ h', OnlyR a b h h' → InE .i64 3 a b h' v (mkE 3 k L.length) → Q (I64 (k + ((L.length * 3 : Nat) : Int))) h') : WF S 81 [v, I64 k] h Q := by
  refine WF_fn (fn := c81) rfl rfl ?_
  unfold c81
  unfold SmallE at hl
  rcases o with ⟨rfl, rfl⟩ | ⟨n, e, full, hab, rfl, hg, hw⟩
  · ((try simp (maxSteps := 3000000) (dsimp := false) (disch := first | omega | (simp only [len_new, len_put, len_kill]; omega)) only [↓ypre, ypost, ↓reduceIte, Nat.reduceEqDiff, Nat.reduceAdd, Nat.reduceSub, Nat.reduceLeDiff, Nat.zero_add, Nat.sub_zero, ynew]); try simp only [yback])
    refine WC_loop ?_
    ((try simp (maxSteps := 3000000) (dsimp := false) (disch := first | omega | (simp only [len_new, len_put, len_kill]; omega)) only [↓ypre, ypost, ↓reduceIte, Nat.reduceEqDiff, Nat.reduceAdd, Nat.reduceSub, Nat.reduceLeDiff, Nat.zero_add, Nat.sub_zero, ynew, decide_eq_false (show ¬ (0 : Int) < ((0 : Nat) : Int) by decide)]); try simp only [yback])
    have := hQ h (OnlyR.refl _ _ _) (.inl ⟨rfl, rfl⟩)
    simpa using this
  · ((try simp (maxSteps := 3000000) (dsimp := false) (disch := first | omega | (simp only [len_new, len_put, len_kill]; omega)) only [↓ypre, ypost, ↓reduceIte, Nat.reduceEqDiff, Nat.reduceAdd, Nat.reduceSub, Nat.reduceLeDiff, Nat.zero_add, Nat.sub_zero, ynew]); try simp only [yback])
    have c0 : (cel .i64 L.flatten).length = L.length * 3 := by rw [cel_len, flat_len hw]
    refine WC_loop_inv (fun m f K1 => ∃ (i : Nat) (c : List Value), m = L.length - i ∧ i ≤ L.length ∧ f 0 = .slice (some ⟨n, 0, none⟩) L.length 3 ∧ f 1 = I64 (k + ((i * 3 : Nat) : Int)) ∧ f 5 = I64 i ∧ (c.length = L.length * 3) ∧ (K1.get n = some ⟨c, e, false, full⟩) ∧ (OnlyR a b h K1) ∧ (∀ j : Nat, j < i * 3 → c[j]? = some (I64 (k + (j : Int))))) ?_ (L.length - 0) _ _ ⟨0, cel .i64 L.flatten, rfl, by omega, (by first | rfl | (simp [upd_apply]; done)), (by first | rfl | (simp [upd_apply]; done)), (by first | rfl | (simp [upd_apply]; done)), c0, hg, OnlyR.refl _ _ _, (by omega)⟩
    rintro m f K1 ⟨i, c, rfl, hi, f0, f1, f5, hc, hgc, wc, hm⟩
    by_cases hlt : (i : Int) < L.length
    · have hi' : i < L.length := by omega
      have hrow := mul_row (w := 3) hi'
      have ltc := get_lt hgc
      have ixd : ixsV 3 (.slice (some ⟨n, 0, none⟩) L.length 3) (I64 i) = some (.pointer (some ⟨n, i * 3, none⟩)) := by
        rw [ixsV_some, if_pos (by omega)]
        simp
      have s1 : ∀ x : Value, splice c (i * 3) [x] = c.set (i * 3) x := fun x => splice_set (by omega)
      have a1 : k + ((i * 3 : Nat) : Int) + 1 = k + ((i * 3 + 1 : Nat) : Int) := by omega
      have s2 : ∀ x y : Value, splice (c.set (i * 3) x) (i * 3 + 1) [y] = (c.set (i * 3) x).set (i * 3 + 1) y := fun x y => splice_set (by simp only [List.length_set]; omega)
      have a2 : k + ((i * 3 + 1 : Nat) : Int) + 1 = k + ((i * 3 + 2 : Nat) : Int) := by omega
      have s3 : ∀ x y z : Value, splice ((c.set (i * 3) x).set (i * 3 + 1) y) (i * 3 + 2) [z] = ((c.set (i * 3) x).set (i * 3 + 1) y).set (i * 3 + 2) z := fun x y z => splice_set (by simp only [List.length_set]; omega)
      have a3 : k + ((i * 3 + 2 : Nat) : Int) + 1 = k + ((i * 3 + 3 : Nat) : Int) := by omega
      ((try simp (maxSteps := 3000000) (dsimp := false) (disch := first | omega | (simp only [len_new, len_put, len_kill]; omega)) only [↓ypre, ypost, ↓reduceIte, Nat.reduceEqDiff, Nat.reduceAdd, Nat.reduceSub, Nat.reduceLeDiff, Nat.zero_add, Nat.sub_zero, ynew, f0, f1, f5, decide_eq_true hlt, Nat.add_zero, ixd, wr_of hgc, wrap64_in, List.length_set, hc, s1, s2, s3, a1, a2, a3]); try simp only [yback])
      refine ⟨by omega, by omega, by omega, ?_⟩
      have hm' := set_step (g := fun j => I64 (k + (j : Int))) (set_step (g := fun j => I64 (k + (j : Int))) (set_step (g := fun j => I64 (k + (j : Int))) hm (by omega)) (by simp only [List.length_set]; omega)) (by simp only [List.length_set]; omega)
      refine InvQ_go (L.length - (i + 1)) (by omega) ⟨(i + 1), _, rfl, by omega, (by first | rfl | exact f0 | (simp only [upd_apply]; rfl) | (show I64 _ = _; congr 1; omega)), (by show I64 _ = I64 _; congr 1; omega), (by first | rfl | exact f5 | (simp only [upd_apply]; rfl) | (show I64 _ = _; congr 1; omega)), (by simp only [List.length_set]; exact hc), (get_put_same ltc), ⟨by rw [len_put]; exact wc.len, fun m hm => by unfold AH.put; rw [List.getElem?_set_ne (fun e => hm (by omega))]; exact wc.same m hm⟩, (fun j hj => hm' j (by omega))⟩
    · have ei : i = L.length := by omega
      subst ei
      ((try simp (maxSteps := 3000000) (dsimp := false) (disch := first | omega | (simp only [len_new, len_put, len_kill]; omega)) only [↓ypre, ypost, ↓reduceIte, Nat.reduceEqDiff, Nat.reduceAdd, Nat.reduceSub, Nat.reduceLeDiff, Nat.zero_add, Nat.sub_zero, ynew, f0, f1, f5, decide_eq_false hlt]); try simp only [yback])
      have ec := mkE_cells hc hm (by decide)
      refine hQ _ wc (.inr ⟨n, e, full, hab, by rw [mkE_len], ?_, mkE_wid⟩)
      rw [hgc, ec]
theorem l_heldStepS {v : Value} {k : Int} {n : Nat} {h : AH} {Q : Value → AH → Prop} (hv : Els .i64 3 h v (mkE 3 k n)) (hl : n ≤ 1048576) (hk : 0 ≤ k ∧ k ≤ 549755813888)
    (hQ : Q (I64 (k + ((n * 3 : Nat) : Int))) h) : WF S 87 [v, I64 k] h Q := by
  refine WF_fn (fn := c87) rfl rfl ?_
  unfold c87
  have hlen := hv.len
  rw [mkE_len] at hlen
  ((try simp (maxSteps := 3000000) (dsimp := false) (disch := first | omega | (simp only [len_new, len_put, len_kill]; omega)) only [↓ypre, ypost, ↓reduceIte, Nat.reduceEqDiff, Nat.reduceAdd, Nat.reduceSub, Nat.reduceLeDiff, Nat.zero_add, Nat.sub_zero, ynew]); try simp only [yback])
  refine WC_loop_inv (fun m f K1 => ∃ (i : Nat), m = n - i ∧ i ≤ n ∧ f 0 = v ∧ f 1 = I64 (k + ((i * 3 : Nat) : Int)) ∧ f 5 = I64 i ∧ (K1 = h)) ?_ (n - 0) _ _ ⟨0, rfl, by omega, (by first | rfl | (simp [upd_apply]; done)), (by first | rfl | (simp [upd_apply]; done)), (by first | rfl | (simp [upd_apply]; done)), rfl⟩
  rintro m f K1 ⟨i, rfl, hi, f0, f1, f5, hK⟩
  subst hK
  by_cases hlt : (i : Int) < n
  · have hi' : i < n := by omega
    obtain ⟨m, off, hix, hrn, hr1⟩ := hv.at (show i < (mkE 3 k n).length by rw [mkE_len]; exact hi')
    rw [mkE_get hi'] at hr1
    have hrow := mul_row (w := 3) hi'
    have r0 := hr1 0 (by omega)
    rw [show (mkRow 3 k i).getD 0 0 = k + ((i * 3 + 0 : Nat) : Int) from rfl] at r0
    have a1 : k + ((i * 3 : Nat) : Int) + 1 = k + ((i * 3 + 1 : Nat) : Int) := by omega
    have r1 := hr1 1 (by omega)
    rw [show (mkRow 3 k i).getD 1 0 = k + ((i * 3 + 1 : Nat) : Int) from rfl] at r1
    have a2 : k + ((i * 3 + 1 : Nat) : Int) + 1 = k + ((i * 3 + 2 : Nat) : Int) := by omega
    have r2 := hr1 2 (by omega)
    rw [show (mkRow 3 k i).getD 2 0 = k + ((i * 3 + 2 : Nat) : Int) from rfl] at r2
    have a3 : k + ((i * 3 + 2 : Nat) : Int) + 1 = k + ((i * 3 + 3 : Nat) : Int) := by omega
    simp only [Nat.add_zero] at r0
    ((try simp (maxSteps := 3000000) (dsimp := false) (disch := first | omega | (simp only [len_new, len_put, len_kill]; omega)) only [↓ypre, ypost, ↓reduceIte, Nat.reduceEqDiff, Nat.reduceAdd, Nat.reduceSub, Nat.reduceLeDiff, Nat.zero_add, Nat.sub_zero, ynew, f0, f1, f5, hlen, decide_eq_true hlt, Nat.add_zero, hix, r0, r1, r2, a1, a2, a3, wrap64_in, ne_eq, not_true_eq_false]); try simp only [yback])
    refine InvQ_go (n - (i + 1)) (by omega) ⟨(i + 1), rfl, by omega, (by first | rfl | exact f0 | (simp only [upd_apply]; rfl) | (show I64 _ = _; congr 1; omega)), (by show I64 _ = I64 _; congr 1; omega), (by first | rfl | exact f5 | (simp only [upd_apply]; rfl) | (show I64 _ = _; congr 1; omega)), rfl⟩
  · have ei : i = n := by omega
    subst ei
    ((try simp (maxSteps := 3000000) (dsimp := false) (disch := first | omega | (simp only [len_new, len_put, len_kill]; omega)) only [↓ypre, ypost, ↓reduceIte, Nat.reduceEqDiff, Nat.reduceAdd, Nat.reduceSub, Nat.reduceLeDiff, Nat.zero_add, Nat.sub_zero, ynew, f0, f1, f5, hlen, decide_eq_false hlt]); try simp only [yback])
    exact hQ
theorem l_markOutputS {v : Value} {L : List (List Int)} {k : Int} {a b : Nat} {h : AH} {Q : Value → AH → Prop} (o : InE .i64 2 a b h v L) (hl : SmallE L) (hk : 0 ≤ k ∧ k ≤ 549755813888)
    (hQ : ∀ h', OnlyR a b h h' → InE .i64 2 a b h' v (mkE 2 k L.length) → Q (I64 (k + ((L.length * 2 : Nat) : Int))) h') : WF S 82 [v, I64 k] h Q := by
  refine WF_fn (fn := c82) rfl rfl ?_
  unfold c82
  unfold SmallE at hl
  rcases o with ⟨rfl, rfl⟩ | ⟨n, e, full, hab, rfl, hg, hw⟩
  · ((try simp (maxSteps := 3000000) (dsimp := false) (disch := first | omega | (simp only [len_new, len_put, len_kill]; omega)) only [↓ypre, ypost, ↓reduceIte, Nat.reduceEqDiff, Nat.reduceAdd, Nat.reduceSub, Nat.reduceLeDiff, Nat.zero_add, Nat.sub_zero, ynew]); try simp only [yback])
    refine WC_loop ?_
    ((try simp (maxSteps := 3000000) (dsimp := false) (disch := first | omega | (simp only [len_new, len_put, len_kill]; omega)) only [↓ypre, ypost, ↓reduceIte, Nat.reduceEqDiff, Nat.reduceAdd, Nat.reduceSub, Nat.reduceLeDiff, Nat.zero_add, Nat.sub_zero, ynew, decide_eq_false (show ¬ (0 : Int) < ((0 : Nat) : Int) by decide)]); try simp only [yback])
    have := hQ h (OnlyR.refl _ _ _) (.inl ⟨rfl, rfl⟩)
    simpa using this
  · ((try simp (maxSteps := 3000000) (dsimp := false) (disch := first | omega | (simp only [len_new, len_put, len_kill]; omega)) only [↓ypre, ypost, ↓reduceIte, Nat.reduceEqDiff, Nat.reduceAdd, Nat.reduceSub, Nat.reduceLeDiff, Nat.zero_add, Nat.sub_zero, ynew]); try simp only [yback])
    have c0 : (cel .i64 L.flatten).length = L.length * 2 := by rw [cel_len, flat_len hw]
    refine WC_loop_inv (fun m f K1 => ∃ (i : Nat) (c : List Value), m = L.length - i ∧ i ≤ L.length ∧ f 0 = .slice (some ⟨n, 0, none⟩) L.length 2 ∧ f 1 = I64 (k + ((i * 2 : Nat) : Int)) ∧ f 5 = I64 i ∧ (c.length = L.length * 2) ∧ (K1.get n = some ⟨c, e, false, full⟩) ∧ (OnlyR a b h K1) ∧ (∀ j : Nat, j < i * 2 → c[j]? = some (I64 (k + (j : Int))))) ?_ (L.length - 0) _ _ ⟨0, cel .i64 L.flatten, rfl, by omega, (by first | rfl | (simp [upd_apply]; done)), (by first | rfl | (simp [upd_apply]; done)), (by first | rfl | (simp [upd_apply]; done)), c0, hg, OnlyR.refl _ _ _, (by omega)⟩
    rintro m f K1 ⟨i, c, rfl, hi, f0, f1, f5, hc, hgc, wc, hm⟩
    by_cases hlt : (i : Int) < L.length
    · have hi' : i < L.length := by omega
      have hrow := mul_row (w := 2) hi'
      have ltc := get_lt hgc
      have ixd : ixsV 2 (.slice (some ⟨n, 0, none⟩) L.length 2) (I64 i) = some (.pointer (some ⟨n, i * 2, none⟩)) := by
        rw [ixsV_some, if_pos (by omega)]
        simp
      have s1 : ∀ x : Value, splice c (i * 2) [x] = c.set (i * 2) x := fun x => splice_set (by omega)
      have a1 : k + ((i * 2 : Nat) : Int) + 1 = k + ((i * 2 + 1 : Nat) : Int) := by omega
      have s2 : ∀ x y : Value, splice (c.set (i * 2) x) (i * 2 + 1) [y] = (c.set (i * 2) x).set (i * 2 + 1) y := fun x y => splice_set (by simp only [List.length_set]; omega)
      have a2 : k + ((i * 2 + 1 : Nat) : Int) + 1 = k + ((i * 2 + 2 : Nat) : Int) := by omega
      ((try simp (maxSteps := 3000000) (dsimp := false) (disch := first | omega | (simp only [len_new, len_put, len_kill]; omega)) only [↓ypre, ypost, ↓reduceIte, Nat.reduceEqDiff, Nat.reduceAdd, Nat.reduceSub, Nat.reduceLeDiff, Nat.zero_add, Nat.sub_zero, ynew, f0, f1, f5, decide_eq_true hlt, Nat.add_zero, ixd, wr_of hgc, wrap64_in, List.length_set, hc, s1, s2, a1, a2]); try simp only [yback])
      refine ⟨by omega, by omega, ?_⟩
      have hm' := set_step (g := fun j => I64 (k + (j : Int))) (set_step (g := fun j => I64 (k + (j : Int))) hm (by omega)) (by simp only [List.length_set]; omega)
      refine InvQ_go (L.length - (i + 1)) (by omega) ⟨(i + 1), _, rfl, by omega, (by first | rfl | exact f0 | (simp only [upd_apply]; rfl) | (show I64 _ = _; congr 1; omega)), (by show I64 _ = I64 _; congr 1; omega), (by first | rfl | exact f5 | (simp only [upd_apply]; rfl) | (show I64 _ = _; congr 1; omega)), (by simp only [List.length_set]; exact hc), (get_put_same ltc), ⟨by rw [len_put]; exact wc.len, fun m hm => by unfold AH.put; rw [List.getElem?_set_ne (fun e => hm (by omega))]; exact wc.same m hm⟩, (fun j hj => hm' j (by omega))⟩
    · have ei : i = L.length := by omega
      subst ei
      ((try simp (maxSteps := 3000000) (dsimp := false) (disch := first | omega | (simp only [len_new, len_put, len_kill]; omega)) only [↓ypre, ypost, ↓reduceIte, Nat.reduceEqDiff, Nat.reduceAdd, Nat.reduceSub, Nat.reduceLeDiff, Nat.zero_add, Nat.sub_zero, ynew, f0, f1, f5, decide_eq_false hlt]); try simp only [yback])
      have ec := mkE_cells hc hm (by decide)
      refine hQ _ wc (.inr ⟨n, e, full, hab, by rw [mkE_len], ?_, mkE_wid⟩)
      rw [hgc, ec]
theorem l_heldOutputS {v : Value} {k : Int} {n : Nat} {h : AH} {Q : Value → AH → Prop} (hv : Els .i64 2 h v (mkE 2 k n)) (hl : n ≤ 1048576) (hk : 0 ≤ k ∧ k ≤ 549755813888)
    (hQ : Q (I64 (k + ((n * 2 : Nat) : Int))) h) : WF S 88 [v, I64 k] h Q := by
  refine WF_fn (fn := c88) rfl rfl ?_
  unfold c88
  have hlen := hv.len
  rw [mkE_len] at hlen
  ((try simp (maxSteps := 3000000) (dsimp := false) (disch := first | omega | (simp only [len_new, len_put, len_kill]; omega)) only [↓ypre, ypost, ↓reduceIte, Nat.reduceEqDiff, Nat.reduceAdd, Nat.reduceSub, Nat.reduceLeDiff, Nat.zero_add, Nat.sub_zero, ynew]); try simp only [yback])
  refine WC_loop_inv (fun m f K1 => ∃ (i : Nat), m = n - i ∧ i ≤ n ∧ f 0 = v ∧ f 1 = I64 (k + ((i * 2 : Nat) : Int)) ∧ f 5 = I64 i ∧ (K1 = h)) ?_ (n - 0) _ _ ⟨0, rfl, by omega, (by first | rfl | (simp [upd_apply]; done)), (by first | rfl | (simp [upd_apply]; done)), (by first | rfl | (simp [upd_apply]; done)), rfl⟩
  rintro m f K1 ⟨i, rfl, hi, f0, f1, f5, hK⟩
  subst hK
  by_cases hlt : (i : Int) < n
  · have hi' : i < n := by omega
    obtain ⟨m, off, hix, hrn, hr1⟩ := hv.at (show i < (mkE 2 k n).length by rw [mkE_len]; exact hi')
    rw [mkE_get hi'] at hr1
    have hrow := mul_row (w := 2) hi'
    have r0 := hr1 0 (by omega)
    rw [show (mkRow 2 k i).getD 0 0 = k + ((i * 2 + 0 : Nat) : Int) from rfl] at r0
    have a1 : k + ((i * 2 : Nat) : Int) + 1 = k + ((i * 2 + 1 : Nat) : Int) := by omega
    have r1 := hr1 1 (by omega)
    rw [show (mkRow 2 k i).getD 1 0 = k + ((i * 2 + 1 : Nat) : Int) from rfl] at r1
    have a2 : k + ((i * 2 + 1 : Nat) : Int) + 1 = k + ((i * 2 + 2 : Nat) : Int) := by omega
    simp only [Nat.add_zero] at r0
    ((try simp (maxSteps := 3000000) (dsimp := false) (disch := first | omega | (simp only [len_new, len_put, len_kill]; omega)) only [↓ypre, ypost, ↓reduceIte, Nat.reduceEqDiff, Nat.reduceAdd, Nat.reduceSub, Nat.reduceLeDiff, Nat.zero_add, Nat.sub_zero, ynew, f0, f1, f5, hlen, decide_eq_true hlt, Nat.add_zero, hix, r0, r1, a1, a2, wrap64_in, ne_eq, not_true_eq_false]); try simp only [yback])
    refine InvQ_go (n - (i + 1)) (by omega) ⟨(i + 1), rfl, by omega, (by first | rfl | exact f0 | (simp only [upd_apply]; rfl) | (show I64 _ = _; congr 1; omega)), (by show I64 _ = I64 _; congr 1; omega), (by first | rfl | exact f5 | (simp only [upd_apply]; rfl) | (show I64 _ = _; congr 1; omega)), rfl⟩
  · have ei : i = n := by omega
    subst ei
    ((try simp (maxSteps := 3000000) (dsimp := false) (disch := first | omega | (simp only [len_new, len_put, len_kill]; omega)) only [↓ypre, ypost, ↓reduceIte, Nat.reduceEqDiff, Nat.reduceAdd, Nat.reduceSub, Nat.reduceLeDiff, Nat.zero_add, Nat.sub_zero, ynew, f0, f1, f5, hlen, decide_eq_false hlt]); try simp only [yback])
    exact hQ
def marksP (k : Int) (x : Prg) : Prg := ⟨x.p, x.n, mkE 3 k x.st.length, mkE 2 (k + ((x.st.length * 3 : Nat) : Int)) x.out.length⟩
theorem InE.cut {k : IntKind} {w a b : Nat} {h : AH} {v : Value} {L : List (List Int)} (o : InE k w a b h v L) : InE k w a (min b h.length) h v L := by
  rcases o with o | ⟨n, e, full, h1, rfl, h2, h3⟩
  · exact .inl o
  · have := get_lt h2
    exact .inr ⟨n, e, full, by omega, rfl, h2, h3⟩
theorem OnlyR.wide {a b c d : Nat} {h h' : AH} (w : OnlyR a b h h') (h1 : c ≤ a) (h2 : b ≤ d) : OnlyR c d h h' := ⟨w.len, fun n hn => w.same n (fun q => hn (by omega))⟩
theorem gmark_P {v w : Value} {x : Prg} {k : Int} {a b : Nat} {h : AH} {Q : Value → AH → Prop} (o : InP a b h v w x) (hl : SmallP x) (hk : 0 ≤ k ∧ k ≤ 274877906944)
    (hQ : ∀ J h', h <+: J → OnlyR a b J h' → InP a b h' v w (marksP k x) → Q (I64 (k + cntP x)) h') : WF S 32 [prgV x v w, I64 k] h Q := by
  refine WF_fn (fn := c32) rfl rfl ?_
  unfold c32
  obtain ⟨c, h1, h2, o1, o2⟩ := o
  have hl1 := hl.1
  have hl2 := hl.2
  unfold SmallE at hl1 hl2
  have o1 := o1.cut
  have o2 := o2.cut
  ((try simp (maxSteps := 3000000) (dsimp := false) (disch := first | omega | (simp only [len_new, len_put, len_kill]; omega)) only [↓ypre, ypost, ↓reduceIte, Nat.reduceEqDiff, Nat.reduceAdd, Nat.reduceSub, Nat.reduceLeDiff, Nat.zero_add, Nat.sub_zero, ynew, prgV, o1.rd.one, o2.rd.one]); try simp only [yback])
  generalize hH1 : AH.new h _ = H1
  obtain ⟨hb1, p1, n1⟩ := new_facts hH1
  refine l_markStepS (o1.pre p1) hl.1 (by omega) fun H2 w2 m1 => ?_
  have hb2 := w2.get' hb1 (by omega)
  ((try simp (maxSteps := 3000000) (dsimp := false) (disch := first | omega | (simp only [len_new, len_put, len_kill]; omega)) only [↓ypre, ypost, ↓reduceIte, Nat.reduceEqDiff, Nat.reduceAdd, Nat.reduceSub, Nat.reduceLeDiff, Nat.zero_add, Nat.sub_zero, ynew, rd1_of hb2]); try simp only [yback])
  refine l_markOutputS ((o2.pre p1).only w2 (by omega)) hl.2 (by omega) fun H3 w3 m2 => ?_
  ((try simp (maxSteps := 3000000) (dsimp := false) (disch := first | omega | (simp only [len_new, len_put, len_kill]; omega)) only [↓ypre, ypost, ↓reduceIte, Nat.reduceEqDiff, Nat.reduceAdd, Nat.reduceSub, Nat.reduceLeDiff, Nat.zero_add, Nat.sub_zero, ynew]); try simp only [yback])
  have ec : k + ((x.st.length * 3 : Nat) : Int) + ((x.out.length * 2 : Nat) : Int) = k + cntP x := by unfold cntP; omega
  rw [ec]
  refine hQ H1 H3 p1 ((w2.wide (Nat.le_refl _) (by omega)).trans (w3.wide (by omega) (by omega))) ⟨c, h1, h2, ?_, ?_⟩
  · exact (m1.only w3 (by omega)).mono (Nat.le_refl _) (by omega)
  · exact m2.mono (Nat.le_refl _) (by omega)
theorem gheld_P {v w : Value} {x : Prg} {k : Int} {h : AH} {Q : Value → AH → Prop} (hv : PrgR h v w (marksP k x)) (hl : SmallP x) (hk : 0 ≤ k ∧ k ≤ 274877906944)
    (hQ : ∀ h', h <+: h' → Q (I64 (k + cntP x)) h') : WF S 40 [prgV x v w, I64 k] h Q := by
  refine WF_fn (fn := c40) rfl rfl ?_
  unfold c40
  have hl1 := hl.1
  have hl2 := hl.2
  unfold SmallE at hl1 hl2
  obtain ⟨e1, e2⟩ := hv
  simp only [marksP] at e1 e2
  ((try simp (maxSteps := 3000000) (dsimp := false) (disch := first | omega | (simp only [len_new, len_put, len_kill]; omega)) only [↓ypre, ypost, ↓reduceIte, Nat.reduceEqDiff, Nat.reduceAdd, Nat.reduceSub, Nat.reduceLeDiff, Nat.zero_add, Nat.sub_zero, ynew, prgV, e1.one, e2.one]); try simp only [yback])
  generalize hH1 : AH.new h _ = H1
  obtain ⟨hb1, p1, n1⟩ := new_facts hH1
  refine l_heldStepS (e1.pre p1) (by omega) (by omega) ?_
  ((try simp (maxSteps := 3000000) (dsimp := false) (disch := first | omega | (simp only [len_new, len_put, len_kill]; omega)) only [↓ypre, ypost, ↓reduceIte, Nat.reduceEqDiff, Nat.reduceAdd, Nat.reduceSub, Nat.reduceLeDiff, Nat.zero_add, Nat.sub_zero, ynew, rd1_of hb1, decide_eq_false (show ¬ k + ((x.st.length * 3 : Nat) : Int) < 0 by omega)]); try simp only [yback])
  refine l_heldOutputS (e2.pre p1) (by omega) (by omega) ?_
  ((try simp (maxSteps := 3000000) (dsimp := false) (disch := first | omega | (simp only [len_new, len_put, len_kill]; omega)) only [↓ypre, ypost, ↓reduceIte, Nat.reduceEqDiff, Nat.reduceAdd, Nat.reduceSub, Nat.reduceLeDiff, Nat.zero_add, Nat.sub_zero, ynew, decide_eq_false (show ¬ k + ((x.st.length * 3 : Nat) : Int) + ((x.out.length * 2 : Nat) : Int) < 0 by omega)]); try simp only [yback])
  have ec : k + ((x.st.length * 3 : Nat) : Int) + ((x.out.length * 2 : Nat) : Int) = k + cntP x := by unfold cntP; omega
  rw [ec]
  exact hQ _ p1
end Go.Proofs.Ytilpnbejpndgpaa.X
