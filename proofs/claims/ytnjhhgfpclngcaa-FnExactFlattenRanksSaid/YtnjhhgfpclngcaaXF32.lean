/- Slices and flattenings of tensors. -/
import Derived.Test.YtnjhhgfpclngcaaXF31
set_option linter.unusedVariables false
set_option linter.unusedSimpArgs false
set_option maxRecDepth 20000
set_option maxHeartbeats 4000000
namespace Go.Proofs.Ytnjhhgfpclngcaa.X
open Go Go.RowKit

theorem Keeps.of_pre {lo : Nat} {h h' : AH} (p : h <+: h') : Keeps lo h h' := ⟨pre_len p, fun n b _ hb => pre_get p hb⟩
theorem Keeps.trans {lo : Nat} {h h' h'' : AH} (k : Keeps lo h h') (k' : Keeps lo h' h'') : Keeps lo h h'' := ⟨Nat.le_trans k.1 k'.1, fun n b hn hb => k'.2 n b hn (k.2 n b hn hb)⟩
theorem WayF.pre {h h' : AH} {lo : Nat} {sv : Value} {l : List Int} (w : WayF h lo sv l) (p : h <+: h') : WayF h' lo sv l := by
  obtain ⟨kb, full, e, h1, h2⟩ := w
  exact ⟨kb, full, e, h1, pre_get p h2⟩
def sliceT (u : Ten) (a : Int) : List (List Int) := (List.range u.j.toNat).map fun j : Nat => gen u.k.toNat fun k => tat u a j k
theorem sliceT_len {u : Ten} {a : Int} : (sliceT u a).length = u.j.toNat := by simp [sliceT]
theorem sliceT_get {u : Ten} {a : Int} {j : Nat} (hj : j < u.j.toNat) : (sliceT u a).getD j [] = gen u.k.toNat fun k => tat u a j k := by
  simp [sliceT, List.getD_eq_getElem?_getD, List.getElem?_map, List.getElem?_range hj]

theorem s_l05Slice {v : Value} {u : Ten} {a : Int} {h : AH} {Q : Value → AH → Prop} (hv : Ints h v u.ns) (tf : TF u) (ha : 0 ≤ a ∧ a < u.i)
    (hQ : ∀ v' h', h <+: h' → OwnRows h h' v' (sliceT u a) → Q v' h') : WF S 89 [tenV u v, I64 a] h Q := by
  refine WF_fn (fn := c89) rfl rfl ?_
  unfold c89
  try simp (maxSteps := 3000000) (disch := first | omega | (simp only [len_new, len_put, len_kill]; omega)) only [↓xpre, xpost, ↓reduceIte, Nat.reduceEqDiff, Nat.reduceAdd, Nat.reduceSub, Nat.reduceLeDiff, Nat.zero_add, Nat.sub_zero, tenV, hv.one, fillL, zrep]
  generalize hH1 : AH.new h _ = H1
  obtain ⟨hb1, p1, n1⟩ := new_facts hH1
  generalize hH2 : AH.new H1 _ = H2
  obtain ⟨hb2, p2, n2⟩ := new_facts hH2
  have fj := tf.j
  have fk := tf.k
  obtain ⟨J, hJ⟩ : ∃ J : Nat, u.j = J := ⟨u.j.toNat, by omega⟩
  obtain ⟨K, hK⟩ : ∃ K : Nat, u.k = K := ⟨u.k.toNat, by omega⟩
  have hJt : u.j.toNat = J := by omega
  have hKt : u.k.toNat = K := by omega
  refine WC_loop_inv (fun m f K1 => ∃ (j : Nat) (nb : Nat) (full : Bool) (L : List (Nat × List Int)), m = J - j ∧ j ≤ J ∧ f 1 = I64 a ∧ f 2 = .pointer (some ⟨h.length, 0, none⟩) ∧ f 5 = .slice (some ⟨nb, 0, none⟩) L.length 1 ∧ f 6 = I64 j ∧ (TabS H1 K1 nb full L) ∧ (L.map Prod.snd = (sliceT u a).take j)) ?_ (J - 0) _ _ ⟨0, H1.length, true, [], rfl, by omega, (by first | rfl | (simp [upd_apply]; done)), (by first | rfl | (simp [upd_apply]; done)), (by first | rfl | (simp [upd_apply]; done)), (by first | rfl | (simp [upd_apply]; done)), ⟨p2, Nat.le_refl _, hb2, by simp, by simp⟩, (by simp)⟩
  rintro m f K1 ⟨j, nb, full, L, rfl, hj, f1, f2, f5, f6, st, hL⟩
  have hLl : L.length = j := by
    have := congrArg List.length hL
    rw [List.length_map, List.length_take, sliceT_len] at this
    omega
  have hbK := pre_get st.hp hb1
  try simp (maxSteps := 3000000) (disch := first | omega | (simp only [len_new, len_put, len_kill]; omega)) only [↓xpre, xpost, ↓reduceIte, Nat.reduceEqDiff, Nat.reduceAdd, Nat.reduceSub, Nat.reduceLeDiff, Nat.zero_add, Nat.sub_zero, f1, f2, f5, f6, rd1_of hbK, IfW_dec]
  refine ⟨fun hlt => ?_, fun hge => ?_⟩
  · have hj' : j < J := by omega
    try simp (maxSteps := 3000000) (disch := first | omega | (simp only [len_new, len_put, len_kill]; omega)) only [↓xpre, xpost, ↓reduceIte, Nat.reduceEqDiff, Nat.reduceAdd, Nat.reduceSub, Nat.reduceLeDiff, Nat.zero_add, Nat.sub_zero, f1, f2, f5, f6, fillL, zrep]
    generalize hH3 : AH.new K1 _ = H3
    obtain ⟨hb3, p3, n3⟩ := new_facts hH3
    refine WC_loop_inv (fun m f K2 => ∃ (k : Nat) (sv : Value), m = K - k ∧ k ≤ K ∧ f 1 = I64 a ∧ f 2 = .pointer (some ⟨h.length, 0, none⟩) ∧ f 5 = .slice (some ⟨nb, 0, none⟩) L.length 1 ∧ f 6 = I64 j ∧ f 7 = sv ∧ f 8 = I64 k ∧ (Keeps K1.length K1 K2) ∧ (H1 <+: K2) ∧ (WayF K2 K1.length sv (gen k fun k => tat u a j k))) ?_ (K - 0) _ _ ⟨0, .slice (some ⟨K1.length, 0, none⟩) 0 1, rfl, by omega, (by first | rfl | exact f1 | (simp [upd_apply]; done)), (by first | rfl | exact f2 | (simp [upd_apply]; done)), (by first | rfl | exact f5 | (simp [upd_apply]; done)), (by first | rfl | exact f6 | (simp [upd_apply]; done)), (by first | rfl | (simp [upd_apply]; done)), (by first | rfl | (simp [upd_apply]; done)), Keeps.of_pre p3, st.hp.trans p3, ⟨K1.length, true, by rw [gen_len], Nat.le_refl _, hb3⟩⟩
    rintro m f K2 ⟨k, sv, rfl, hk, f1, f2, f5, f6, f7, f8, kp, pp, way⟩
    have hbK2 := pre_get pp hb1
    have pl := pre_len st.hp
    try simp (maxSteps := 3000000) (disch := first | omega | (simp only [len_new, len_put, len_kill]; omega)) only [↓xpre, xpost, ↓reduceIte, Nat.reduceEqDiff, Nat.reduceAdd, Nat.reduceSub, Nat.reduceLeDiff, Nat.zero_add, Nat.sub_zero, f1, f2, f5, f6, f7, f8, rd1_of hbK2, IfW_dec]
    refine ⟨fun hltk => ?_, fun hgek => ?_⟩
    · try simp (maxSteps := 3000000) (disch := first | omega | (simp only [len_new, len_put, len_kill]; omega)) only [↓xpre, xpost, ↓reduceIte, Nat.reduceEqDiff, Nat.reduceAdd, Nat.reduceSub, Nat.reduceLeDiff, Nat.zero_add, Nat.sub_zero, f1, f2, f5, f6, f7, f8, rdn_of hbK2]
      refine s_l05At (t := u) (hv.pre (p1.trans pp)) tf ha (j := j) (by omega) (k := k) (by omega) fun H p => ?_
      try simp (maxSteps := 3000000) (disch := first | omega | (simp only [len_new, len_put, len_kill]; omega)) only [↓xpre, xpost, ↓reduceIte, Nat.reduceEqDiff, Nat.reduceAdd, Nat.reduceSub, Nat.reduceLeDiff, Nat.zero_add, Nat.sub_zero, f1, f2, f5, f6, f7, f8, fillL, zrep]
      refine (way.pre p).app (by rw [gen_len]; omega) fun sv' h5 k5 pre5 way5 => ?_
      try simp (maxSteps := 3000000) (disch := first | omega | (simp only [len_new, len_put, len_kill]; omega)) only [↓xpre, xpost, ↓reduceIte, Nat.reduceEqDiff, Nat.reduceAdd, Nat.reduceSub, Nat.reduceLeDiff, Nat.zero_add, Nat.sub_zero, f1, f2, f5, f6, f7, f8, wrap64_in]
      refine InvQ_go (K - (k + 1)) (by omega) ⟨(k + 1), sv', rfl, by omega, (by first | rfl | exact f1 | (simp only [upd_apply]; rfl) | (show I64 _ = _; congr 1; omega)), (by first | rfl | exact f2 | (simp only [upd_apply]; rfl) | (show I64 _ = _; congr 1; omega)), (by first | rfl | exact f5 | (simp only [upd_apply]; rfl) | (show I64 _ = _; congr 1; omega)), (by first | rfl | exact f6 | (simp only [upd_apply]; rfl) | (show I64 _ = _; congr 1; omega)), (by first | rfl | exact f7 | (simp only [upd_apply]; rfl) | (show I64 _ = _; congr 1; omega)), (by first | rfl | exact f8 | (simp only [upd_apply]; rfl) | (show I64 _ = _; congr 1; omega)), (kp.trans ((Keeps.of_pre p).trans k5)), (pre5 _ (by omega) (pp.trans p)), (by rw [gen_succ]; exact way5)⟩
    · have ek : k = K := by omega
      subst ek
      obtain ⟨kb, fu, rfl, q2, q3⟩ := way
      have lt := st.lt
      have st' := st.keeps kp pp lt.1 lt.2
      try simp (maxSteps := 3000000) (disch := first | omega | (simp only [len_new, len_put, len_kill]; omega)) only [↓xpre, xpost, ↓reduceIte, Nat.reduceEqDiff, Nat.reduceAdd, Nat.reduceSub, Nat.reduceLeDiff, Nat.zero_add, Nat.sub_zero, f1, f2, f5, f6, f7, f8, fillL, zrep]
      refine st'.app (n := kb) (r := gen k fun k => tat u a j k) ⟨by omega, by omega, fun p hp => by have := lt.2 p hp; omega⟩ ⟨_, q3⟩ (by omega) fun nb' H' s' => ?_
      try simp (maxSteps := 3000000) (disch := first | omega | (simp only [len_new, len_put, len_kill]; omega)) only [↓xpre, xpost, ↓reduceIte, Nat.reduceEqDiff, Nat.reduceAdd, Nat.reduceSub, Nat.reduceLeDiff, Nat.zero_add, Nat.sub_zero, f1, f2, f5, f6, f7, f8, wrap64_in]
      refine InvQ_go (J - (j + 1)) (by omega) ⟨(j + 1), nb', false, (L ++ [(kb, gen k fun k => tat u a j k)]), rfl, by omega, (by first | rfl | exact f1 | (simp only [upd_apply]; rfl) | (show I64 _ = _; congr 1; omega)), (by first | rfl | exact f2 | (simp only [upd_apply]; rfl) | (show I64 _ = _; congr 1; omega)), (by first | rfl | exact f5 | (simp only [upd_apply]; rfl) | (show I64 _ = _; congr 1; omega)), (by first | rfl | exact f6 | (simp only [upd_apply]; rfl) | (show I64 _ = _; congr 1; omega)), s', ?_⟩
      rw [List.map_append, hL, take_next (d := []) (by rw [sliceT_len]; omega), sliceT_get (by omega), hKt]
      rfl
  · have e : j = J := by omega
    subst e
    rw [List.take_of_length_le (by rw [sliceT_len]; omega)] at hL
    try simp (maxSteps := 3000000) (disch := first | omega | (simp only [len_new, len_put, len_kill]; omega)) only [↓xpre, xpost, ↓reduceIte, Nat.reduceEqDiff, Nat.reduceAdd, Nat.reduceSub, Nat.reduceLeDiff, Nat.zero_add, Nat.sub_zero, f1, f2, f5, f6]
    have o := st.own
    rw [hL] at o
    exact hQ _ _ (p1.trans st.hp) (o.lo (by omega))

/-- A copy: a block of its own. -/
theorem s_l01Own {v : Value} {ns : List Int} {h : AH} {Q : Value → AH → Prop} (hv : Ints h v ns) (h0 : 0 < ns.length) (hl : (ns.length : Int) ≤ 1048576)
    (hQ : ∀ n h', h.length ≤ n → h <+: h' → OwnB h' n (ns.map (Value.int .i64)) false → Q (.slice (some ⟨n, 0, none⟩) ns.length 1) h') : WF S 107 [v] h Q := by
  refine WF_fn (fn := c107) rfl rfl ?_
  unfold c107
  obtain ⟨n, off, rfl, hr⟩ := hv.vals.rdn (by simpa using h0)
  try simp (maxSteps := 3000000) (disch := first | omega | (simp only [len_new, len_put, len_kill]; omega)) only [↓xpre, xpost, ↓reduceIte, Nat.reduceEqDiff, Nat.reduceAdd, Nat.reduceSub, Nat.reduceLeDiff, Nat.zero_add, Nat.sub_zero, fillL, zrep]
  rw [List.length_map] at hr ⊢
  rw [app_zero get_new_same (show AH.rdn (AH.new h _) n off ns.length = _ by rw [rdn_eq] at hr ⊢; obtain ⟨b, hb, hc⟩ := Option.bind_eq_some_iff.1 hr; rw [get_new_any hb]; exact hc) h0 (by omega)]
  try simp (maxSteps := 3000000) (disch := first | omega | (simp only [len_new, len_put, len_kill]; omega)) only [↓xpre, xpost, ↓reduceIte, Nat.reduceEqDiff, Nat.reduceAdd, Nat.reduceSub, Nat.reduceLeDiff, Nat.zero_add, Nat.sub_zero]
  exact hQ _ _ (by rw [len_new]; omega) (pre_new (pre_kill (pre_new (List.prefix_refl _)) (Nat.le_refl _))) ⟨_, get_new_eq (by rw [len_kill])⟩
theorem s_l05Flat {v : Value} {u : Ten} {w n : Nat} {h : AH} {Q : Value → AH → Prop} (hv : Ints h v u.ns) (tf : TF u) (hw : u.j * u.k = w) (hi : u.i = n)
    (hQ : ∀ v' h', h <+: h' → OwnRows h h' v' (parts u.ns w n) → Q v' h') : WF S 106 [tenV u v] h Q := by
  refine WF_fn (fn := c106) rfl rfl ?_
  unfold c106
  have jk := mul_in1 (A := 9) (B := 9) tf.j tf.k
  have hlen := tf.len
  rw [Int.mul_assoc, hw, hi] at hlen
  have hlen' : u.ns.length = n * w := by exact_mod_cast hlen
  have fi := tf.i
  have le := tf.le
  try simp (maxSteps := 3000000) (disch := first | omega | (simp only [len_new, len_put, len_kill]; omega)) only [↓xpre, xpost, ↓reduceIte, Nat.reduceEqDiff, Nat.reduceAdd, Nat.reduceSub, Nat.reduceLeDiff, Nat.zero_add, Nat.sub_zero, tenV, hv.one, fillL, zrep, hw, wrap64_in]
  generalize hH1 : AH.new h _ = H1
  obtain ⟨hb1, p1, n1⟩ := new_facts hH1
  generalize hH2 : AH.new H1 _ = H2
  obtain ⟨hb2, p2, n2⟩ := new_facts hH2
  refine WC_loop_inv (fun m f K1 => ∃ (i : Nat) (nb : Nat) (full : Bool) (L : List (Nat × List Int)), m = n - i ∧ i ≤ n ∧ f 1 = .pointer (some ⟨h.length, 0, none⟩) ∧ f 3 = .slice (some ⟨nb, 0, none⟩) L.length 1 ∧ f 4 = I64 w ∧ f 5 = I64 i ∧ (TabS H1 K1 nb full L) ∧ (L.map Prod.snd = (parts u.ns w n).take i)) ?_ (n - 0) _ _ ⟨0, H1.length, true, [], rfl, by omega, (by first | rfl | (simp [upd_apply]; done)), (by first | rfl | (simp [upd_apply]; done)), (by first | rfl | (simp [upd_apply]; done)), (by first | rfl | (simp [upd_apply]; done)), ⟨p2, Nat.le_refl _, hb2, by simp, by simp⟩, (by simp)⟩
  rintro m f K1 ⟨i, nb, full, L, rfl, hi, f1, f3, f4, f5, st, hL⟩
  have hLl : L.length = i := by
    have := congrArg List.length hL
    rw [List.length_map, List.length_take, parts_len] at this
    omega
  have hbK := pre_get st.hp hb1
  have hvK := hv.pre (p1.trans st.hp)
  try simp (maxSteps := 3000000) (disch := first | omega | (simp only [len_new, len_put, len_kill]; omega)) only [↓xpre, xpost, ↓reduceIte, Nat.reduceEqDiff, Nat.reduceAdd, Nat.reduceSub, Nat.reduceLeDiff, Nat.zero_add, Nat.sub_zero, f1, f3, f4, f5, rd1_of hbK, IfW_dec]
  refine ⟨fun hlt => ?_, fun hge => ?_⟩
  · have hi' : i < n := by omega
    have hrow := mul_row (w := w) hi'
    have eiw : (i : Int) * (w : Int) = ((i * w : Nat) : Int) := by push_cast; rfl
    obtain ⟨v', e1, e2⟩ := hvK.slcV (k1 := .i64) (k2 := .i64) (l := ((i * w : Nat) : Int)) (u := ((i * w : Nat) : Int) + (w : Int)) (by omega)
    rw [Int.toNat_natCast, show (((i * w : Nat) : Int) + (w : Int) - ((i * w : Nat) : Int)).toNat = w by omega] at e2
    have rl : ((u.ns.drop (i * w)).take w).length = w := by rw [List.length_take, List.length_drop]; omega
    try simp (maxSteps := 3000000) (disch := first | omega | (simp only [len_new, len_put, len_kill]; omega)) only [↓xpre, xpost, ↓reduceIte, Nat.reduceEqDiff, Nat.reduceAdd, Nat.reduceSub, Nat.reduceLeDiff, Nat.zero_add, Nat.sub_zero, f1, f3, f4, f5, rd1_of hbK, eiw, wrap64_in, ↓WX_slc, omapF_some, omapF_none, e1]
    refine s_l01Own e2 (by omega) (by omega) fun n' h2 hn' p2 ob => ?_
    try simp (maxSteps := 3000000) (disch := first | omega | (simp only [len_new, len_put, len_kill]; omega)) only [↓xpre, xpost, ↓reduceIte, Nat.reduceEqDiff, Nat.reduceAdd, Nat.reduceSub, Nat.reduceLeDiff, Nat.zero_add, Nat.sub_zero, f1, f3, f4, f5, fillL, zrep]
    have lt := st.lt
    refine (st.pre p2).app ⟨by have := pre_len st.hp; omega, by omega, fun p hp => by have := lt.2 p hp; omega⟩ ob (by omega) fun nb' H' st' => ?_
    try simp (maxSteps := 3000000) (disch := first | omega | (simp only [len_new, len_put, len_kill]; omega)) only [↓xpre, xpost, ↓reduceIte, Nat.reduceEqDiff, Nat.reduceAdd, Nat.reduceSub, Nat.reduceLeDiff, Nat.zero_add, Nat.sub_zero, f1, f3, f4, f5, wrap64_in]
    refine InvQ_go (n - (i + 1)) (by omega) ⟨(i + 1), nb', false, (L ++ [(n', (u.ns.drop (i * w)).take w)]), rfl, by omega, (by first | rfl | exact f1 | (simp only [upd_apply]; rfl) | (show I64 _ = _; congr 1; omega)), (by first | rfl | exact f3 | (simp only [upd_apply]; rfl) | (show I64 _ = _; congr 1; omega)), (by first | rfl | exact f4 | (simp only [upd_apply]; rfl) | (show I64 _ = _; congr 1; omega)), (by first | rfl | exact f5 | (simp only [upd_apply]; rfl) | (show I64 _ = _; congr 1; omega)), st', ?_⟩
    rw [List.map_append, hL, take_next (d := []) (by rw [parts_len]; exact hi'), parts_get hi']
    rfl
  · have e : i = n := by omega
    subst e
    rw [List.take_of_length_le (by rw [parts_len]; exact Nat.le_refl _)] at hL
    try simp (maxSteps := 3000000) (disch := first | omega | (simp only [len_new, len_put, len_kill]; omega)) only [↓xpre, xpost, ↓reduceIte, Nat.reduceEqDiff, Nat.reduceAdd, Nat.reduceSub, Nat.reduceLeDiff, Nat.zero_add, Nat.sub_zero, f1, f3, f4, f5]
    have o := st.own
    rw [hL] at o
    exact hQ _ _ (p1.trans st.hp) (o.lo (by omega))
end Go.Proofs.Ytnjhhgfpclngcaa.X
