/- Texts of one claim, put together by merge.py: XP12, XP13. -/
import Derived.Test.YtilpnbejpndgpaaM8
import Derived.Test.YtilpnbejpndgpaaM7
import Derived.Test.YtilpnbejpndgpaaM5
/- Programs of lists: a row behind a program, on both sides. -/
set_option linter.unusedVariables false
set_option linter.unusedSimpArgs false
set_option maxRecDepth 20000
set_option maxHeartbeats 4000000
namespace Go.Proofs.Ytilpnbejpndgpaa.X
open Go Go.RowKit

/-- Elements under way, with all blocks of other types kept. -/
theorem WayX.app2 {e : TypeId} {k : IntKind} {w : Nat} {lo : Nat} {sv : Value} {L : List (List Int)} {H : AH} {q : List Int} {e' : TypeId} {ro full : Bool} {bytes : Nat} (o : WayX e k w H lo [] sv L) (hq : q.length = w) (hl : ((L.length : Int) + 1) * bytes ≤ 140737488355328) (hn : (L.length : Int) < 1048576) (hlo : lo ≤ H.length)
    {Q : Value → AH → Prop} (hQ : ∀ (sv' : Value) (H' : AH), H'.length = H.length + 2 → (∀ h0 : AH, h0.length ≤ lo → h0 <+: H → h0 <+: H') → (∀ m b, b.e ≠ e → H.get m = some b → H'.get m = some b) → WayX e k w H' H.length [] sv' (L ++ [q]) → Q sv' H') :
    OQ (appV e w bytes sv (.slice (some ⟨H.length, 0, none⟩) 1 w) (H.new ⟨cel k q, e', ro, full⟩)) Q := by
  have hr : (H.new ⟨cel k q, e', ro, full⟩).rdn H.length 0 w = some (cel k q) := by
    rw [rdn_of get_new_same]
    simp only
    rw [if_pos (by rw [cel_len, hq]; omega), List.drop_zero, List.take_of_length_le (by rw [cel_len, hq]; omega)]
  obtain ⟨hw, ⟨rfl, rfl⟩ | ⟨kb, fu, rfl, h2, h3, h4⟩⟩ := o
  · rw [app_nilW (.inl rfl) hr (by simp only [List.length_nil] at hl; omega), OQ_some]
    refine hQ _ _ (by rw [len_new, len_new]) (fun h0 _ p => pre_new (pre_new p)) (fun m b _ o => get_new_any (get_new_any o)) ⟨?_, .inr ⟨_, false, rfl, by rw [len_new]; omega, by simp, ?_⟩⟩
    · intro r hr
      rw [List.nil_append, List.mem_singleton] at hr
      rw [hr, hq]
    · rw [get_new_same]
      simp
  · have hk : (H.new ⟨cel k q, e', ro, full⟩).get kb = some ⟨cel k L.flatten, e, false, fu⟩ := get_new_any h4
    have hkb := get_lt h4
    rw [app_ownW hk (by rw [cel_len, flat_len hw]) hr ⟨hl, by omega⟩, OQ_some]
    refine hQ _ _ (by rw [len_new, len_kill, len_new]) (fun h0 q p => pre_new (pre_kill (pre_new p) (by omega))) (fun m b hm o => ?_) ⟨?_, .inr ⟨(H.new ⟨cel k q, e', ro, full⟩).length, false, by simp, by rw [len_new]; omega, by simp, ?_⟩⟩
    · refine get_new_any ?_
      rw [get_kill_ne]
      · exact get_new_any o
      · rintro rfl
        rw [h4] at o
        cases o
        exact hm rfl
    · intro r hr
      rcases List.mem_append.1 hr with hr | hr
      · exact hw r hr
      · rw [List.mem_singleton.1 hr, hq]
    · rw [get_new_eq (by rw [len_kill])]
      simp [cel_app]
theorem WayX.types {e e' : TypeId} {k : IntKind} {w : Nat} {h h' : AH} {lo : Nat} {sv : Value} {L : List (List Int)} (o : WayX e k w h lo [] sv L) (he : e ≠ e') (hk : ∀ m b, b.e ≠ e' → h.get m = some b → h'.get m = some b) : WayX e k w h' lo [] sv L :=
  o.keep fun m c f _ _ g => hk _ _ he g
theorem WayX.put_ty {e : TypeId} {k : IntKind} {w : Nat} {h : AH} {lo n : Nat} {ex : List Nat} {sv : Value} {L : List (List Int)} {b b' : Blk} (o : WayX e k w h lo ex sv L) (g : h.get n = some b') (hb : b'.e ≠ e) : WayX e k w (h.put n b) lo ex sv L :=
  o.keep fun m c f _ _ g' => by
    rw [get_put_ne]
    · exact g'
    · rintro rfl
      rw [g'] at g
      cases g
      exact hb rfl
/-- What stays while a program is made. -/
structure Stay (lo : Nat) (h h' : AH) : Prop where
  len : h.length ≤ h'.length
  pre : ∀ h0 : AH, h0.length ≤ lo → h0 <+: h → h0 <+: h'
  get : ∀ m b, h.get m = some b → b.e ≠ 96 → b.e ≠ 98 → h'.get m = some b
theorem Stay.refl {lo : Nat} {h : AH} : Stay lo h h := ⟨Nat.le_refl _, fun _ _ p => p, fun _ _ g _ _ => g⟩
theorem Stay.of {lo : Nat} {h h' : AH} (p : h <+: h') : Stay lo h h' := ⟨pre_len p, fun _ _ q => q.trans p, fun _ _ g _ _ => pre_get p g⟩
theorem Stay.trans {lo : Nat} {h h1 h2 : AH} (a : Stay lo h h1) (b : Stay lo h1 h2) : Stay lo h h2 :=
  ⟨Nat.le_trans a.len b.len, fun h0 hl p => b.pre h0 hl (a.pre h0 hl p), fun m c g h1 h2 => b.get m c (a.get m c g h1 h2) h1 h2⟩
theorem Stay.put {lo : Nat} {h h' : AH} {n : Nat} {b : Blk} (a : Stay lo h h') (hn : h.length ≤ n) (hlo : lo ≤ n) : Stay lo h (h'.put n b) :=
  ⟨by rw [len_put]; exact a.len, fun h0 hl p => pre_put (a.pre h0 hl p) (by omega), fun m c g h1 h2 => by
    have := get_lt g
    rw [get_put_ne (by omega)]
    exact a.get m c g h1 h2⟩

/-! ### Plainly -/
def invP (p n : Int) : Int := if (1 * n).tmod p = 1 then 1 else if (2 * n).tmod p = 1 then 2 else if (3 * n).tmod p = 1 then 3 else 4
theorem invP_is {p n : Int} (hp : isP p = true) (hn : 1 ≤ n ∧ n < p) : IsInv p n (invP p n) := by
  obtain ⟨w, h1, h2, h3, h4⟩ := inv_is hp hn
  have hp5 := isP_in hp
  have hc : w = 1 ∨ w = 2 ∨ w = 3 ∨ w = 4 := by omega
  have e : invP p n = w := by
    unfold invP
    rcases hc with rfl | rfl | rfl | rfl
    · rw [if_pos h3]
    · rw [if_neg (h4 1 (by omega) (by omega)), if_pos h3]
    · rw [if_neg (h4 1 (by omega) (by omega)), if_neg (h4 2 (by omega) (by omega)), if_pos h3]
    · rw [if_neg (h4 1 (by omega) (by omega)), if_neg (h4 2 (by omega) (by omega)), if_neg (h4 3 (by omega) (by omega))]
  rw [e]
  exact ⟨h1, h2, h3, h4⟩
structure RS where
  st : List (List Int)
  val : Int
  fac : Int
def rowSt (p n : Int) (st0 : List (List Int)) (row : List Int) : Nat → RS
  | 0 => ⟨st0, -1, 0⟩
  | k + 1 =>
    let s := rowSt p n st0 row k
    if row.getD k 0 = 0 then s else if s.val < 0 then ⟨s.st, k, row.getD k 0⟩
    else ⟨s.st ++ [[s.val, k, (row.getD k 0 * invP p s.fac).tmod p]], n + ((s.st.length : Int) + 1) - 1, s.fac⟩
def rowP (x : Prg) (row : List Int) : Prg :=
  let s := rowSt x.p x.n x.st row row.length
  ⟨x.p, x.n, s.st, x.out ++ [[max s.val 0, s.fac]]⟩
theorem rowSt_facts {p n : Int} {st0 : List (List Int)} {row : List Int} (hp : isP p = true) (hr : allIn p row = true) (hn : 1 ≤ n ∧ n ≤ 30) : ∀ {k : Nat}, k ≤ row.length →
    st0.length ≤ (rowSt p n st0 row k).st.length ∧ (rowSt p n st0 row k).st.length ≤ st0.length + k ∧ (-1 ≤ (rowSt p n st0 row k).val ∧ (rowSt p n st0 row k).val ≤ n + st0.length + k) ∧ (0 ≤ (rowSt p n st0 row k).fac ∧ (rowSt p n st0 row k).fac < p) ∧
    ((rowSt p n st0 row k).val < 0 ↔ (rowSt p n st0 row k).fac = 0)
  | 0, _ => by
    have := isP_in hp
    unfold rowSt
    dsimp only
    refine ⟨by omega, by omega, ⟨by omega, by omega⟩, ⟨by omega, by omega⟩, by omega⟩
  | k + 1, hk => by
    have ih := rowSt_facts (st0 := st0) hp hr hn (k := k) (by omega)
    have hrk := allIn_iff.1 hr k (by omega)
    unfold rowSt
    simp only
    split
    · omega
    · rename_i h0
      split
      · simp only
        omega
      · simp only [List.length_append, List.length_singleton]
        omega
theorem rowP_p {x : Prg} {row : List Int} : (rowP x row).p = x.p := rfl
theorem rowP_n {x : Prg} {row : List Int} : (rowP x row).n = x.n := rfl
theorem rowP_out {x : Prg} {row : List Int} : (rowP x row).out.length = x.out.length + 1 := by simp [rowP]
def finP (x : Prg) (rows : List (List Int)) : Nat → Prg
  | 0 => x
  | i + 1 => rowP (finP x rows i) (rows.getD i [])
theorem finP_facts {x : Prg} {rows : List (List Int)} {N : Nat} (hp : isP x.p = true) (hr : ∀ i, i < rows.length → allIn x.p (rows.getD i []) = true ∧ (rows.getD i []).length ≤ N) (hn : 1 ≤ x.n ∧ x.n ≤ 30) : ∀ {i : Nat}, i ≤ rows.length →
    (finP x rows i).p = x.p ∧ (finP x rows i).n = x.n ∧ (finP x rows i).st.length ≤ x.st.length + i * N ∧ (finP x rows i).out.length = x.out.length + i
  | 0, _ => ⟨rfl, rfl, by simp [finP], rfl⟩
  | i + 1, hi => by
    obtain ⟨h1, h2, h3, h4⟩ := finP_facts hp hr hn (i := i) (by omega)
    have f := rowSt_facts (st0 := (finP x rows i).st) (p := (finP x rows i).p) (n := (finP x rows i).n) (row := rows.getD i []) (by rw [h1]; exact hp) (by rw [h1]; exact (hr i (by omega)).1) (by rw [h2]; exact hn) (k := (rows.getD i []).length) (Nat.le_refl _)
    have hN := (hr i (by omega)).2
    unfold finP
    refine ⟨h1, h2, ?_, by rw [rowP_out, h4]; omega⟩
    show (rowSt (finP x rows i).p (finP x rows i).n (finP x rows i).st (rows.getD i []) (rows.getD i []).length).st.length ≤ _
    rw [Nat.add_mul, Nat.one_mul]
    omega

/-- What a program under way is. -/
structure Way2 (h : AH) (lo : Nat) (v w : Value) (x : Prg) : Prop where
  st : WayX (96) .i64 3 h lo [] v x.st
  out : WayX (98) .i64 2 h lo [] w x.out
theorem Way2.pre {h h' : AH} {lo : Nat} {v w : Value} {x : Prg} (o : Way2 h lo v w x) (p : h <+: h') : Way2 h' lo v w x := ⟨o.st.pre p, o.out.pre p⟩
theorem Way2.rd {h : AH} {lo : Nat} {v w : Value} {x : Prg} (o : Way2 h lo v w x) : PrgR h v w x := ⟨o.st.inE.rd, o.out.inE.rd⟩
theorem Way2.mlo {h : AH} {lo lo' : Nat} {v w : Value} {x : Prg} (o : Way2 h lo v w x) (hl : lo' ≤ lo) : Way2 h lo' v w x := ⟨o.st.mlo hl, o.out.mlo hl⟩

/-- The one block ahead of the other. -/
def OrdB (v w : Value) : Prop := ∀ a b la lb wa wb, v = .slice (some ⟨a, 0, none⟩) la wa → w = .slice (some ⟨b, 0, none⟩) lb wb → a < b
theorem WayX.ord {e e' : TypeId} {k : IntKind} {w w' : Nat} {h h' : AH} {lo : Nat} {ex ex' : List Nat} {sv so : Value} {L L' : List (List Int)} (o : WayX e k w h lo ex sv L) (o' : WayX e' k w' h' h.length ex' so L') : OrdB sv so := by
  intro a b la lb wa wb e1 e2
  obtain ⟨hw, ⟨h1, _⟩ | ⟨kb, full, h1, h2, h3, h4⟩⟩ := o
  · rw [e1] at h1
    cases h1
  · obtain ⟨hw', ⟨h1', _⟩ | ⟨kb', full', h1', h2', h3', h4'⟩⟩ := o'
    · rw [e2] at h1'
      cases h1'
    · rw [e1] at h1
      rw [e2] at h1'
      simp only [Value.slice.injEq, Option.some.injEq, Addr.mk.injEq, and_true] at h1 h1'
      have := get_lt h4
      omega
theorem Way2.inP {h : AH} {lo : Nat} {v w : Value} {x : Prg} (o : Way2 h lo v w x) (ho : OrdB v w) (hlo : lo ≤ h.length) : InP lo h.length h v w x := by
  obtain ⟨⟨hw, h1⟩, ⟨hw', h1'⟩⟩ := o
  rcases h1' with h1' | ⟨kb', full', e1', h2', h3', h4'⟩
  · refine ⟨h.length, hlo, Nat.le_refl _, ?_, .inl h1'⟩
    rcases h1 with h1 | ⟨kb, full, e1, h2, h3, h4⟩
    · exact .inl h1
    · exact .inr ⟨kb, _, full, ⟨h2, get_lt h4⟩, e1, h4, hw⟩
  · refine ⟨kb', h2', by have := get_lt h4'; omega, ?_, .inr ⟨kb', _, full', ⟨Nat.le_refl _, get_lt h4'⟩, e1', h4', hw'⟩⟩
    rcases h1 with h1 | ⟨kb, full, e1, h2, h3, h4⟩
    · exact .inl h1
    · exact .inr ⟨kb, _, full, ⟨h2, ho _ _ _ _ _ _ e1 e1'⟩, e1, h4, hw⟩

theorem s_l07Row {v w u : Value} {x : Prg} {row : List Int} {lo : Nat} {h : AH} {Q : Value → AH → Prop} (hp : isP x.p = true) (hn : 1 ≤ x.n ∧ x.n ≤ 30) (o : Way2 h lo v w x) (hlo : lo ≤ h.length)
    (hu : ∀ h', Stay lo h h' → Ints h' u row) (hr : allIn x.p row = true) (hl : row.length ≤ 10000) (hs : x.st.length ≤ 500000) (ho : x.out.length ≤ 500000)
    (hQ : ∀ v' w' h', Stay lo h h' → Way2 h' lo v' w' (rowP x row) → OrdB v' w' → Q (prgV (rowP x row) v' w') h') : WF S 127 [prgV x v w, u] h Q := by
  refine WF_fn (fn := c127) rfl rfl ?_
  unfold c127
  have hp5 := isP_in hp
  ((try simp (maxSteps := 3000000) (dsimp := false) (disch := first | omega | (simp only [len_new, len_put, len_kill]; omega)) only [↓ypre, ypost, ↓reduceIte, Nat.reduceEqDiff, Nat.reduceAdd, Nat.reduceSub, Nat.reduceLeDiff, Nat.zero_add, Nat.sub_zero, ynew, prgV, o.st.one, o.out.one]); try simp only [yback])
  generalize hH1 : AH.new h _ = H1
  obtain ⟨hb1, p1, n1⟩ := new_facts hH1
  generalize hH2 : AH.new H1 _ = H2
  obtain ⟨hb2, p2, n2⟩ := new_facts hH2
  have p12 := p1.trans p2
  refine WC_loop_inv (fun m f K1 => ∃ (k : Nat) (sv : Value), m = row.length - k ∧ k ≤ row.length ∧ f 1 = u ∧ f 2 = .pointer (some ⟨h.length, 0, none⟩) ∧ f 4 = .pointer (some ⟨H1.length, 0, none⟩) ∧ f 5 = I64 (rowSt x.p x.n x.st row k).val ∧ f 6 = I64 (rowSt x.p x.n x.st row k).fac ∧ f 7 = I64 k ∧ (Stay lo h K1) ∧ (WayX (96) .i64 3 K1 lo [] sv (rowSt x.p x.n x.st row k).st) ∧ (WayX (98) .i64 2 K1 lo [] w x.out) ∧ (K1.get h.length = some ⟨[I64 x.p, I64 x.n, sv, w], 48, false, true⟩) ∧ (K1.get H1.length = some ⟨[I64 0, I64 0, .slice none 0 0, .slice none 0 0], 48, false, true⟩)) ?_ (row.length - 0) _ _ ⟨0, v, rfl, by omega, (by first | rfl | (simp [upd_apply]; done)), (by first | rfl | (simp [upd_apply]; done)), (by first | rfl | (simp [upd_apply]; done)), (by first | rfl | (simp [upd_apply]; done)), (by first | rfl | (simp [upd_apply]; done)), (by first | rfl | (simp [upd_apply]; done)), Stay.of p12, o.st.pre p12, o.out.pre p12, pre_get p2 hb1, hb2⟩
  rintro m f K1 ⟨k, sv, rfl, hk, f1, f2, f4, f5, f6, f7, sy, wv, ww, g1, g2⟩
  have hu' := hu _ sy
  have lt1 := get_lt g1
  have lt2 := get_lt g2
  have sl := sy.len
  have fc := rowSt_facts (st0 := x.st) hp hr hn (k := k) hk
  by_cases hlt : (k : Int) < row.length
  · have hk' : k < row.length := by omega
    have hrk := allIn_iff.1 hr k hk'
    have fc' := rowSt_facts (st0 := x.st) hp hr hn (k := k + 1) hk'
    have er : rowSt x.p x.n x.st row (k + 1) = if row.getD k 0 = 0 then rowSt x.p x.n x.st row k else if (rowSt x.p x.n x.st row k).val < 0 then ⟨(rowSt x.p x.n x.st row k).st, k, row.getD k 0⟩
      else ⟨(rowSt x.p x.n x.st row k).st ++ [[(rowSt x.p x.n x.st row k).val, k, (row.getD k 0 * invP x.p (rowSt x.p x.n x.st row k).fac).tmod x.p]], x.n + (((rowSt x.p x.n x.st row k).st.length : Int) + 1) - 1, (rowSt x.p x.n x.st row k).fac⟩ := rfl
    generalize hS : rowSt x.p x.n x.st row k = S0 at *
    have ix := hu'.ix (k := .i64) (j := k) (by omega) (by omega)
    have rd := hu'.rd (j := k) (by omega) (by omega)
    by_cases h0 : row.getD k 0 = 0
    · rw [if_pos h0] at er
      ((try simp (maxSteps := 3000000) (dsimp := false) (disch := first | omega | (simp only [len_new, len_put, len_kill]; omega)) only [↓ypre, ypost, ↓reduceIte, Nat.reduceEqDiff, Nat.reduceAdd, Nat.reduceSub, Nat.reduceLeDiff, Nat.zero_add, Nat.sub_zero, ynew, f1, f2, f4, f5, f6, f7, hu'.len, decide_eq_true hlt, ix, rd, nth, Int.toNat_natCast, h0, decide_eq_true (show (0 : Int) = 0 from rfl), wrap64_in]); try simp only [yback])
      refine InvQ_go (row.length - (k + 1)) (by omega) ⟨(k + 1), sv, rfl, by omega, (by first | rfl | exact f1 | (simp only [upd_apply]; rfl) | (show I64 _ = _; congr 1; omega)), (by first | rfl | exact f2 | (simp only [upd_apply]; rfl) | (show I64 _ = _; congr 1; omega)), (by first | rfl | exact f4 | (simp only [upd_apply]; rfl) | (show I64 _ = _; congr 1; omega)), (by rw [er]; exact f5), (by rw [er]; exact f6), (by first | rfl | exact f7 | (simp only [upd_apply]; rfl) | (show I64 _ = _; congr 1; omega)), sy, (by rw [er]; exact wv), ww, g1, g2⟩
    rw [if_neg h0] at er
    by_cases h1 : S0.val < 0
    · rw [if_pos h1] at er
      ((try simp (maxSteps := 3000000) (dsimp := false) (disch := first | omega | (simp only [len_new, len_put, len_kill]; omega)) only [↓ypre, ypost, ↓reduceIte, Nat.reduceEqDiff, Nat.reduceAdd, Nat.reduceSub, Nat.reduceLeDiff, Nat.zero_add, Nat.sub_zero, ynew, f1, f2, f4, f5, f6, f7, hu'.len, decide_eq_true hlt, ix, rd, nth, Int.toNat_natCast, decide_eq_false h0, decide_eq_true h1, wrap64_in]); try simp only [yback])
      refine InvQ_go (row.length - (k + 1)) (by omega) ⟨(k + 1), sv, rfl, by omega, (by first | rfl | exact f1 | (simp only [upd_apply]; rfl) | (show I64 _ = _; congr 1; omega)), (by first | rfl | exact f2 | (simp only [upd_apply]; rfl) | (show I64 _ = _; congr 1; omega)), (by first | rfl | exact f4 | (simp only [upd_apply]; rfl) | (show I64 _ = _; congr 1; omega)), (by rw [er]; rfl), (by rw [er]; rfl), (by first | rfl | exact f7 | (simp only [upd_apply]; rfl) | (show I64 _ = _; congr 1; omega)), sy, (by rw [er]; exact wv), ww, g1, g2⟩
    rw [if_neg h1] at er
    have iv := invP_is hp (n := S0.fac) (by omega)
    ((try simp (maxSteps := 3000000) (dsimp := false) (disch := first | omega | (simp only [len_new, len_put, len_kill]; omega)) only [↓ypre, ypost, ↓reduceIte, Nat.reduceEqDiff, Nat.reduceAdd, Nat.reduceSub, Nat.reduceLeDiff, Nat.zero_add, Nat.sub_zero, ynew, f1, f2, f4, f5, f6, f7, hu'.len, decide_eq_true hlt, ix, rd, nth, Int.toNat_natCast, decide_eq_false h0, decide_eq_false h1, rd1_of g1, wrap64_in]); try simp only [yback])
    refine s_l01Inverse hp5 (by omega) iv ?_
    have b := mul_in (A := 5) (B := 5) (a := row.getD k 0) (b := invP x.p S0.fac) (by omega) (by have := iv.1; have := iv.2.1; omega)
    ((try simp (maxSteps := 3000000) (dsimp := false) (disch := first | omega | (simp only [len_new, len_put, len_kill]; omega)) only [↓ypre, ypost, ↓reduceIte, Nat.reduceEqDiff, Nat.reduceAdd, Nat.reduceSub, Nat.reduceLeDiff, Nat.zero_add, Nat.sub_zero, ynew, f1, f2, f4, f5, f6, f7, rd1_of g1, wrap64_in, bin_rem]); try simp only [yback])
    refine ⟨List.prefix_refl _, ?_⟩
    refine wv.app2 (q := [S0.val, k, (row.getD k 0 * invP x.p S0.fac).tmod x.p]) rfl (by omega) (by omega) (by omega) fun sv' H' l' pre' keep' wv0 => ?_
    have wv' := wv0.mlo (lo' := lo) (by omega)
    have g1' := keep' _ _ (by simp) g1
    have g2' := keep' _ _ (by simp) g2
    have ww' := ww.types (by simp) keep'
    have lt1' := get_lt g1'
    have wl := wv'.len
    rw [List.length_append, List.length_singleton] at wl
    have l1' : h.length < (H'.put h.length ⟨[I64 x.p, I64 x.n, sv', w], 48, false, true⟩).length := by rw [len_put]; exact lt1'
    ((try simp (maxSteps := 3000000) (dsimp := false) (disch := first | omega | (simp only [len_new, len_put, len_kill]; omega)) only [↓ypre, ypost, ↓reduceIte, Nat.reduceEqDiff, Nat.reduceAdd, Nat.reduceSub, Nat.reduceLeDiff, Nat.zero_add, Nat.sub_zero, ynew, f1, f2, f4, f5, f6, f7, wv'.one, wv'.cells, wr_of g1', rd1_of (get_put_same lt1'), wl, wrap64_in]); try simp only [yback])
    refine InvQ_go (row.length - (k + 1)) (by omega) ⟨(k + 1), sv', rfl, by omega, (by first | rfl | exact f1 | (simp only [upd_apply]; rfl) | (show I64 _ = _; congr 1; omega)), (by first | rfl | exact f2 | (simp only [upd_apply]; rfl) | (show I64 _ = _; congr 1; omega)), (by first | rfl | exact f4 | (simp only [upd_apply]; rfl) | (show I64 _ = _; congr 1; omega)), (by rw [er]; show I64 _ = I64 _; congr 1), (by rw [er]; exact f6), (by first | rfl | exact f7 | (simp only [upd_apply]; rfl) | (show I64 _ = _; congr 1; omega)), ((sy.trans ⟨by omega, pre', fun m' b' g q _ => keep' m' b' q g⟩).put (Nat.le_refl _) hlo), (by rw [er]; exact wv'.put_ty g1' (by simp)), (ww'.put_ty g1' (by simp)), (get_put_same lt1'), (by rw [get_put_ne (by omega)]; exact g2')⟩
  have ek : k = row.length := by omega
  subst ek
  generalize hS : rowSt x.p x.n x.st row row.length = S0 at *
  have emx : (if (0 : Int) > S0.val then (0 : Int) else S0.val) = max S0.val 0 := by split <;> omega
  ((try simp (maxSteps := 3000000) (dsimp := false) (disch := first | omega | (simp only [len_new, len_put, len_kill]; omega)) only [↓ypre, ypost, ↓reduceIte, Nat.reduceEqDiff, Nat.reduceAdd, Nat.reduceSub, Nat.reduceLeDiff, Nat.zero_add, Nat.sub_zero, ynew, f1, f2, f4, f5, f6, f7, hu'.len, decide_eq_false hlt, rd1_of g1, ↓yWX_mmx, mmx_max, emx, wrap64_in]); try simp only [yback])
  refine ww.app2 (q := [max S0.val 0, S0.fac]) rfl (by omega) (by omega) (by omega) fun so' H' l' pre' keep' ww0' => ?_
  have ww' := ww0'.mlo (lo' := lo) (by omega)
  have g1' := keep' _ _ (by simp) g1
  have g2' := keep' _ _ (by simp) g2
  have wv' := wv.types (by simp) keep'
  have lt1' := get_lt g1'
  have lt2' := get_lt g2'
  have g2'' : (H'.put h.length ⟨[I64 x.p, I64 x.n, sv, so'], 48, false, true⟩).get H1.length = some ⟨[I64 0, I64 0, .slice none 0 0, .slice none 0 0], 48, false, true⟩ := by rw [get_put_ne (by omega)]; exact g2'
  ((try simp (maxSteps := 3000000) (dsimp := false) (disch := first | omega | (simp only [len_new, len_put, len_kill]; omega)) only [↓ypre, ypost, ↓reduceIte, Nat.reduceEqDiff, Nat.reduceAdd, Nat.reduceSub, Nat.reduceLeDiff, Nat.zero_add, Nat.sub_zero, ynew, f1, f2, f4, f5, f6, f7, ww'.one, ww'.cells, wv'.one, wv'.cells, wr_of g1', rdn_of (get_put_same lt1'), wr_of g2'']); try simp only [yback])
  refine hQ sv so' _ (((sy.trans ⟨by omega, pre', fun m' b' g _ q => keep' m' b' q g⟩).put (Nat.le_refl _) hlo).put (by omega) (by omega)) ⟨?_, ?_⟩ (wv.ord ww0')
  · show WayX _ _ _ _ _ _ _ (rowSt x.p x.n x.st row row.length).st
    rw [hS]
    exact (wv'.put_ty g1' (by simp)).put_ty g2'' (by simp)
  · show WayX _ _ _ _ _ _ _ (x.out ++ [[max (rowSt x.p x.n x.st row row.length).val 0, (rowSt x.p x.n x.st row row.length).fac]])
    rw [hS]
    exact (ww'.put_ty g1' (by simp)).put_ty g2'' (by simp)
/-- Rows that stay. -/
def RowsS (lo : Nat) (h : AH) (u : Value) (rows : List (List Int)) : Prop :=
  ∃ cs, (∀ h', Stay lo h h' → Vals h' u cs) ∧ cs.length = rows.length ∧ ∀ i, i < rows.length → ∀ h', Stay lo h h' → Ints h' (cs.getD i undef) (rows.getD i [])
theorem Rows.stays {h : AH} {u : Value} {rows : List (List Int)} (o : Rows h u rows) : RowsS h.length h u rows := by
  obtain ⟨cs, h1, h2, h3⟩ := o
  exact ⟨cs, fun h' s => h1.pre (s.pre _ (Nat.le_refl _) (List.prefix_refl _)), h2, fun i hi h' s => (h3 i hi).pre (s.pre _ (Nat.le_refl _) (List.prefix_refl _))⟩
theorem RowsS.trans {lo : Nat} {h h1 : AH} {u : Value} {rows : List (List Int)} (o : RowsS lo h u rows) (s : Stay lo h h1) : RowsS lo h1 u rows := by
  obtain ⟨cs, c1, c2, c3⟩ := o
  exact ⟨cs, fun h' t => c1 _ (s.trans t), c2, fun i hi h' t => c3 i hi _ (s.trans t)⟩

theorem i_finished {v w u : Value} {x : Prg} {rows : List (List Int)} {lo : Nat} {h : AH} {Q : Value → AH → Prop} (hp : isP x.p = true) (hn : 1 ≤ x.n ∧ x.n ≤ 30) (o : Way2 h lo v w x) (hlo : lo ≤ h.length)
    (hu : RowsS lo h u rows) (hr : ∀ i, i < rows.length → allIn x.p (rows.getD i []) = true ∧ (rows.getD i []).length ≤ 10000) (hl : rows.length ≤ 30) (hs : x.st.length ≤ 100000) (ho : x.out.length ≤ 100000)
    (hQ : ∀ v' w' h', Stay lo h h' → Way2 h' lo v' w' (finP x rows rows.length) → (0 < rows.length → OrdB v' w') → Q (prgV (finP x rows rows.length) v' w') h') : WF S 92 [prgV x v w, u] h Q := by
  refine WF_fn (fn := c92) rfl rfl ?_
  unfold c92
  have hp5 := isP_in hp
  obtain ⟨cs, hv, hcl, hri⟩ := hu
  ((try simp (maxSteps := 3000000) (dsimp := false) (disch := first | omega | (simp only [len_new, len_put, len_kill]; omega)) only [↓ypre, ypost, ↓reduceIte, Nat.reduceEqDiff, Nat.reduceAdd, Nat.reduceSub, Nat.reduceLeDiff, Nat.zero_add, Nat.sub_zero, ynew, prgV, o.st.one, o.out.one]); try simp only [yback])
  generalize hH1 : AH.new h _ = H1
  obtain ⟨hb1, p1, n1⟩ := new_facts hH1
  generalize hH2 : AH.new H1 _ = H2
  obtain ⟨hb2, p2, n2⟩ := new_facts hH2
  have p12 := p1.trans p2
  ((try simp (maxSteps := 3000000) (dsimp := false) (disch := first | omega | (simp only [len_new, len_put, len_kill]; omega)) only [↓ypre, ypost, ↓reduceIte, Nat.reduceEqDiff, Nat.reduceAdd, Nat.reduceSub, Nat.reduceLeDiff, Nat.zero_add, Nat.sub_zero, ynew, (hv _ (Stay.of p12)).len, hcl]); try simp only [yback])
  refine WC_loop_inv (fun m f K1 => ∃ (i : Nat) (sv : Value) (so : Value), m = rows.length - i ∧ i ≤ rows.length ∧ f 2 = .pointer (some ⟨h.length, 0, none⟩) ∧ f 4 = .pointer (some ⟨H1.length, 0, none⟩) ∧ f 10 = u ∧ f 11 = I64 rows.length ∧ f 12 = I64 i ∧ (Stay lo h K1) ∧ (Way2 K1 lo sv so (finP x rows i)) ∧ (0 < i → OrdB sv so) ∧ (K1.get h.length = some ⟨[I64 x.p, I64 x.n, sv, so], 48, false, true⟩) ∧ (K1.get H1.length = some ⟨[I64 0, I64 0, .slice none 0 0, .slice none 0 0], 48, false, true⟩)) ?_ (rows.length - 0) _ _ ⟨0, v, w, rfl, by omega, (by first | rfl | (simp [upd_apply]; done)), (by first | rfl | (simp [upd_apply]; done)), (by first | rfl | (simp [upd_apply]; done)), (by first | rfl | (simp [upd_apply]; done)), (by first | rfl | (simp [upd_apply]; done)), Stay.of p12, o.pre p12, (by omega), pre_get p2 hb1, hb2⟩
  rintro m f K1 ⟨i, sv, so, rfl, hi, f2, f4, f10, f11, f12, sy, o2, ob, g1, g2⟩
  obtain ⟨ep, en, sle, ole⟩ := finP_facts hp hr hn (i := i) hi
  have lt1 := get_lt g1
  have lt2 := get_lt g2
  have sl := sy.len
  by_cases hlt : (i : Int) < rows.length
  · have hi' : i < rows.length := by omega
    obtain ⟨hra, hrl⟩ := hr i hi'
    have ix := (hv _ sy).ix (k := .i64) (j := i) (by omega) (by omega)
    have rd := (hv _ sy).rd (j := i) (by omega) (by omega)
    have hri := hri i hi'
    rw [Int.toNat_natCast] at rd
    generalize cs.getD i undef = rv at *
    have fin1 : finP x rows (i + 1) = rowP (finP x rows i) (rows.getD i []) := rfl
    generalize hX : finP x rows i = X at *
    generalize hR : rows.getD i [] = row at *
    ((try simp (maxSteps := 3000000) (dsimp := false) (disch := first | omega | (simp only [len_new, len_put, len_kill]; omega)) only [↓ypre, ypost, ↓reduceIte, Nat.reduceEqDiff, Nat.reduceAdd, Nat.reduceSub, Nat.reduceLeDiff, Nat.zero_add, Nat.sub_zero, ynew, f2, f4, f10, f11, f12, decide_eq_true hlt, ix, rd, nth, Int.toNat_natCast, wrap64_in]); try simp only [yback])
    generalize hHB : AH.new K1 _ = HB
    obtain ⟨hbB, pB, nB⟩ := new_facts hHB
    have syB := sy.trans (Stay.of pB)
    ((try simp (maxSteps := 3000000) (dsimp := false) (disch := first | omega | (simp only [len_new, len_put, len_kill]; omega)) only [↓ypre, ypost, ↓reduceIte, Nat.reduceEqDiff, Nat.reduceAdd, Nat.reduceSub, Nat.reduceLeDiff, Nat.zero_add, Nat.sub_zero, ynew, f2, f4, f10, f11, f12, (hri _ syB).len]); try simp only [yback])
    have wwB : WayX (98) .i64 2 HB lo [K1.length] so X.out := (o2.out.exc (fun m' hm => by simp at hm; omega)).pre pB
    refine WC_loop_inv (fun m f K2 => ∃ (k : Nat) (sv : Value), m = row.length - k ∧ k ≤ row.length ∧ f 2 = .pointer (some ⟨h.length, 0, none⟩) ∧ f 4 = .pointer (some ⟨H1.length, 0, none⟩) ∧ f 7 = .pointer (some ⟨K1.length, 0, none⟩) ∧ f 10 = u ∧ f 11 = I64 rows.length ∧ f 12 = I64 i ∧ f 17 = rv ∧ f 18 = I64 row.length ∧ f 19 = I64 k ∧ (Stay lo h K2) ∧ (WayX (96) .i64 3 K2 lo [] sv (rowSt X.p X.n X.st row k).st) ∧ (WayX (98) .i64 2 K2 lo [K1.length] so X.out) ∧ (K2.get h.length = some ⟨[I64 x.p, I64 x.n, sv, so], 48, false, true⟩) ∧ (K2.get H1.length = some ⟨[I64 0, I64 0, .slice none 0 0, .slice none 0 0], 48, false, true⟩) ∧ (K2.get K1.length = some ⟨[I64 (max (rowSt X.p X.n X.st row k).val 0), I64 (rowSt X.p X.n X.st row k).fac], 98, false, true⟩)) ?_ (row.length - 0) _ _ ⟨0, sv, rfl, by omega, (by first | rfl | exact f2 | (simp [upd_apply]; done)), (by first | rfl | exact f4 | (simp [upd_apply]; done)), (by first | rfl | (simp [upd_apply]; done)), (by first | rfl | exact f10 | (simp [upd_apply]; done)), (by first | rfl | exact f11 | (simp [upd_apply]; done)), (by first | rfl | exact f12 | (simp [upd_apply]; done)), (by first | rfl | (simp [upd_apply]; done)), (by first | rfl | (simp [upd_apply]; done)), (by first | rfl | (simp [upd_apply]; done)), syB, o2.st.pre pB, wwB, pre_get pB g1, pre_get pB g2, hbB⟩
    rintro m f K2 ⟨k, sv, rfl, hk, f2, f4, f7, f10, f11, f12, f17, f18, f19, sy, wv, ww, g1, g2, g7⟩
    have hu' := hri _ sy
    have lt1' := get_lt g1
    have lt2' := get_lt g2
    have lt7 := get_lt g7
    have sl2 := sy.len
    have fc := rowSt_facts (p := X.p) (n := X.n) (st0 := X.st) (by rw [ep]; exact hp) (by rw [ep]; exact hra) (by rw [en]; exact hn) (k := k) hk
    by_cases hltk : (k : Int) < row.length
    · have hk' : k < row.length := by omega
      have hrk := allIn_iff.1 hra k hk'
      have fc' := rowSt_facts (p := X.p) (n := X.n) (st0 := X.st) (by rw [ep]; exact hp) (by rw [ep]; exact hra) (by rw [en]; exact hn) (k := k + 1) hk'
      have er : rowSt X.p X.n X.st row (k + 1) = if row.getD k 0 = 0 then rowSt X.p X.n X.st row k else if (rowSt X.p X.n X.st row k).val < 0 then ⟨(rowSt X.p X.n X.st row k).st, k, row.getD k 0⟩
        else ⟨(rowSt X.p X.n X.st row k).st ++ [[(rowSt X.p X.n X.st row k).val, k, (row.getD k 0 * invP X.p (rowSt X.p X.n X.st row k).fac).tmod X.p]], X.n + (((rowSt X.p X.n X.st row k).st.length : Int) + 1) - 1, (rowSt X.p X.n X.st row k).fac⟩ := rfl
      generalize hS : rowSt X.p X.n X.st row k = S0 at *
      have ix := hu'.ix (k := .i64) (j := k) (by omega) (by omega)
      have rd := hu'.rd (j := k) (by omega) (by omega)
      by_cases h0 : row.getD k 0 = 0
      · rw [if_pos h0] at er
        ((try simp (maxSteps := 3000000) (dsimp := false) (disch := first | omega | (simp only [len_new, len_put, len_kill]; omega)) only [↓ypre, ypost, ↓reduceIte, Nat.reduceEqDiff, Nat.reduceAdd, Nat.reduceSub, Nat.reduceLeDiff, Nat.zero_add, Nat.sub_zero, ynew, f2, f4, f7, f10, f11, f12, f17, f18, f19, decide_eq_true hltk, ix, rd, nth, Int.toNat_natCast, h0, decide_eq_true (show (0 : Int) = 0 from rfl), wrap64_in]); try simp only [yback])
        refine InvQ_go (row.length - (k + 1)) (by omega) ⟨(k + 1), sv, rfl, by omega, (by first | rfl | exact f2 | (simp only [upd_apply]; rfl) | (show I64 _ = _; congr 1; omega)), (by first | rfl | exact f4 | (simp only [upd_apply]; rfl) | (show I64 _ = _; congr 1; omega)), (by first | rfl | exact f7 | (simp only [upd_apply]; rfl) | (show I64 _ = _; congr 1; omega)), (by first | rfl | exact f10 | (simp only [upd_apply]; rfl) | (show I64 _ = _; congr 1; omega)), (by first | rfl | exact f11 | (simp only [upd_apply]; rfl) | (show I64 _ = _; congr 1; omega)), (by first | rfl | exact f12 | (simp only [upd_apply]; rfl) | (show I64 _ = _; congr 1; omega)), (by first | rfl | exact f17 | (simp only [upd_apply]; rfl) | (show I64 _ = _; congr 1; omega)), (by first | rfl | exact f18 | (simp only [upd_apply]; rfl) | (show I64 _ = _; congr 1; omega)), (by first | rfl | exact f19 | (simp only [upd_apply]; rfl) | (show I64 _ = _; congr 1; omega)), sy, (by rw [er]; exact wv), ww, g1, g2, (by rw [er]; exact g7)⟩
      rw [if_neg h0] at er
      by_cases h1 : S0.val < 0
      · rw [if_pos h1] at er
        have f0 : S0.fac = 0 := fc.2.2.2.2.1 h1
        ((try simp (maxSteps := 3000000) (dsimp := false) (disch := first | omega | (simp only [len_new, len_put, len_kill]; omega)) only [↓ypre, ypost, ↓reduceIte, Nat.reduceEqDiff, Nat.reduceAdd, Nat.reduceSub, Nat.reduceLeDiff, Nat.zero_add, Nat.sub_zero, ynew, f2, f4, f7, f10, f11, f12, f17, f18, f19, decide_eq_true hltk, ix, rd, nth, Int.toNat_natCast, decide_eq_false h0, rd1_of g7, f0, decide_eq_true (show (0 : Int) = 0 from rfl), wr_of g7, wrap64_in]); try simp only [yback])
        refine InvQ_go (row.length - (k + 1)) (by omega) ⟨(k + 1), sv, rfl, by omega, (by first | rfl | exact f2 | (simp only [upd_apply]; rfl) | (show I64 _ = _; congr 1; omega)), (by first | rfl | exact f4 | (simp only [upd_apply]; rfl) | (show I64 _ = _; congr 1; omega)), (by first | rfl | exact f7 | (simp only [upd_apply]; rfl) | (show I64 _ = _; congr 1; omega)), (by first | rfl | exact f10 | (simp only [upd_apply]; rfl) | (show I64 _ = _; congr 1; omega)), (by first | rfl | exact f11 | (simp only [upd_apply]; rfl) | (show I64 _ = _; congr 1; omega)), (by first | rfl | exact f12 | (simp only [upd_apply]; rfl) | (show I64 _ = _; congr 1; omega)), (by first | rfl | exact f17 | (simp only [upd_apply]; rfl) | (show I64 _ = _; congr 1; omega)), (by first | rfl | exact f18 | (simp only [upd_apply]; rfl) | (show I64 _ = _; congr 1; omega)), (by first | rfl | exact f19 | (simp only [upd_apply]; rfl) | (show I64 _ = _; congr 1; omega)), (sy.put (by omega) (by omega)), (by rw [er]; exact wv.put_ty g7 (by simp)), (ww.put (.inr (by simp))), (by rw [get_put_ne (by omega)]; exact g1), (by rw [get_put_ne (by omega)]; exact g2), ?_⟩
        rw [get_put_same lt7, er]
        show _ = some (⟨[I64 (max (k : Int) 0), _], _, _, _⟩ : Blk)
        rw [show max (k : Int) 0 = k by omega]
      rw [if_neg h1] at er
      have f0 : S0.fac ≠ 0 := fun e => h1 (fc.2.2.2.2.2 e)
      have mv : max S0.val 0 = S0.val := by omega
      have iv := invP_is hp (n := S0.fac) (by omega)
      ((try simp (maxSteps := 3000000) (dsimp := false) (disch := first | omega | (simp only [len_new, len_put, len_kill]; omega)) only [↓ypre, ypost, ↓reduceIte, Nat.reduceEqDiff, Nat.reduceAdd, Nat.reduceSub, Nat.reduceLeDiff, Nat.zero_add, Nat.sub_zero, ynew, f2, f4, f7, f10, f11, f12, f17, f18, f19, decide_eq_true hltk, ix, rd, nth, Int.toNat_natCast, decide_eq_false h0, rd1_of g7, decide_eq_false f0, rd1_of g1, mv, wrap64_in]); try simp only [yback])
      refine i_inverse hp5 (by omega) iv ?_
      have b := mul_in (A := 5) (B := 5) (a := row.getD k 0) (b := invP x.p S0.fac) (by omega) (by have := iv.1; have := iv.2.1; omega)
      ((try simp (maxSteps := 3000000) (dsimp := false) (disch := first | omega | (simp only [len_new, len_put, len_kill]; omega)) only [↓ypre, ypost, ↓reduceIte, Nat.reduceEqDiff, Nat.reduceAdd, Nat.reduceSub, Nat.reduceLeDiff, Nat.zero_add, Nat.sub_zero, ynew, f2, f4, f7, f10, f11, f12, f17, f18, f19, rd1_of g1, wrap64_in, bin_rem]); try simp only [yback])
      refine ⟨List.prefix_refl _, ?_⟩
      refine wv.app2 (q := [S0.val, k, (row.getD k 0 * invP x.p S0.fac).tmod x.p]) rfl (by omega) (by omega) (by omega) fun sv' H' l' pre' keep' wv0 => ?_
      have wv' := wv0.mlo (lo' := lo) (by omega)
      have g1' := keep' _ _ (by simp) g1
      have g2' := keep' _ _ (by simp) g2
      have g7' := keep' _ _ (by simp) g7
      have ww' : WayX (98) .i64 2 H' lo [K1.length] so X.out := ww.keep fun m' c' f' _ _ g => keep' _ _ (by simp) g
      have lt1'' := get_lt g1'
      have lt7'' := get_lt g7'
      have wl := wv'.len
      rw [List.length_append, List.length_singleton] at wl
      have g7'' : (H'.put h.length ⟨[I64 x.p, I64 x.n, sv', so], 48, false, true⟩).get K1.length = some ⟨[I64 (max S0.val 0), I64 S0.fac], 98, false, true⟩ := by rw [get_put_ne (by omega)]; exact g7'
      ((try simp (maxSteps := 3000000) (dsimp := false) (disch := first | omega | (simp only [len_new, len_put, len_kill]; omega)) only [↓ypre, ypost, ↓reduceIte, Nat.reduceEqDiff, Nat.reduceAdd, Nat.reduceSub, Nat.reduceLeDiff, Nat.zero_add, Nat.sub_zero, ynew, f2, f4, f7, f10, f11, f12, f17, f18, f19, wv'.one, wv'.cells, wr_of g1', rd1_of (get_put_same lt1''), wl, wr_of g7'', wrap64_in]); try simp only [yback])
      have lt7p : K1.length < (H'.put h.length ⟨[I64 x.p, I64 x.n, sv', so], 48, false, true⟩).length := by rw [len_put]; exact lt7''
      have er' : rowSt X.p X.n X.st row (k + 1) = ⟨S0.st ++ [[S0.val, k, (row.getD k 0 * invP x.p S0.fac).tmod x.p]], x.n + ((S0.st.length : Int) + 1) - 1, S0.fac⟩ := by
        rw [er, ep, en]
      refine InvQ_go (row.length - (k + 1)) (by omega) ⟨(k + 1), sv', rfl, by omega, (by first | rfl | exact f2 | (simp only [upd_apply]; rfl) | (show I64 _ = _; congr 1; omega)), (by first | rfl | exact f4 | (simp only [upd_apply]; rfl) | (show I64 _ = _; congr 1; omega)), (by first | rfl | exact f7 | (simp only [upd_apply]; rfl) | (show I64 _ = _; congr 1; omega)), (by first | rfl | exact f10 | (simp only [upd_apply]; rfl) | (show I64 _ = _; congr 1; omega)), (by first | rfl | exact f11 | (simp only [upd_apply]; rfl) | (show I64 _ = _; congr 1; omega)), (by first | rfl | exact f12 | (simp only [upd_apply]; rfl) | (show I64 _ = _; congr 1; omega)), (by first | rfl | exact f17 | (simp only [upd_apply]; rfl) | (show I64 _ = _; congr 1; omega)), (by first | rfl | exact f18 | (simp only [upd_apply]; rfl) | (show I64 _ = _; congr 1; omega)), (by first | rfl | exact f19 | (simp only [upd_apply]; rfl) | (show I64 _ = _; congr 1; omega)), (((sy.trans ⟨by omega, pre', fun m' b' g q _ => keep' m' b' q g⟩).put (Nat.le_refl _) hlo).put (by omega) (by omega)), (by rw [er']; exact (wv'.put_ty g1' (by simp)).put_ty g7'' (by simp)), ((ww'.put_ty g1' (by simp)).put (.inr (by simp))), (by rw [get_put_ne (by omega), get_put_same lt1'']), (by rw [get_put_ne (by omega), get_put_ne (by omega)]; exact g2'), ?_⟩
      rw [get_put_same lt7p, er']
      show _ = some (⟨[I64 (max (x.n + ((S0.st.length : Int) + 1) - 1) 0), _], _, _, _⟩ : Blk)
      rw [show max (x.n + ((S0.st.length : Int) + 1) - 1) 0 = x.n + ((S0.st.length : Int) + 1) - 1 by omega]
      rfl
    have ek : k = row.length := by omega
    subst ek
    generalize hS : rowSt X.p X.n X.st row row.length = S0 at *
    ((try simp (maxSteps := 3000000) (dsimp := false) (disch := first | omega | (simp only [len_new, len_put, len_kill]; omega)) only [↓ypre, ypost, ↓reduceIte, Nat.reduceEqDiff, Nat.reduceAdd, Nat.reduceSub, Nat.reduceLeDiff, Nat.zero_add, Nat.sub_zero, ynew, f2, f4, f7, f10, f11, f12, f17, f18, f19, decide_eq_false hltk, rd1_of g1, rdn_of g7]); try simp only [yback])
    have ww0 : WayX (98) .i64 2 K2 lo [] so X.out := ww.exc (by simp)
    refine ww0.app2 (q := [max S0.val 0, S0.fac]) rfl (by omega) (by omega) (by omega) fun so' H' l' pre' keep' ww0' => ?_
    have ww' := ww0'.mlo (lo' := lo) (by omega)
    have g1' := keep' _ _ (by simp) g1
    have g2' := keep' _ _ (by simp) g2
    have wv' := wv.types (by decide) keep'
    have lt1'' := get_lt g1'
    ((try simp (maxSteps := 3000000) (dsimp := false) (disch := first | omega | (simp only [len_new, len_put, len_kill]; omega)) only [↓ypre, ypost, ↓reduceIte, Nat.reduceEqDiff, Nat.reduceAdd, Nat.reduceSub, Nat.reduceLeDiff, Nat.zero_add, Nat.sub_zero, ynew, f2, f4, f7, f10, f11, f12, f17, f18, f19, ww'.one, ww'.cells, wr_of g1', wrap64_in]); try simp only [yback])
    refine InvQ_go (rows.length - (i + 1)) (by omega) ⟨(i + 1), sv, so', rfl, by omega, (by first | rfl | exact f2 | (simp only [upd_apply]; rfl) | (show I64 _ = _; congr 1; omega)), (by first | rfl | exact f4 | (simp only [upd_apply]; rfl) | (show I64 _ = _; congr 1; omega)), (by first | rfl | exact f10 | (simp only [upd_apply]; rfl) | (show I64 _ = _; congr 1; omega)), (by first | rfl | exact f11 | (simp only [upd_apply]; rfl) | (show I64 _ = _; congr 1; omega)), (by first | rfl | exact f12 | (simp only [upd_apply]; rfl) | (show I64 _ = _; congr 1; omega)), ((sy.trans ⟨by omega, pre', fun m' b' g _ q => keep' m' b' q g⟩).put (Nat.le_refl _) hlo), ?_, (fun _ => wv.ord ww0'), (get_put_same lt1''), (by rw [get_put_ne (by omega)]; exact g2')⟩
    rw [fin1]
    refine ⟨?_, ?_⟩
    · show WayX _ _ _ _ _ _ _ (rowSt X.p X.n X.st row row.length).st
      rw [hS]
      exact wv'.put_ty g1' (by simp)
    · show WayX _ _ _ _ _ _ _ (X.out ++ [[max (rowSt X.p X.n X.st row row.length).val 0, (rowSt X.p X.n X.st row row.length).fac]])
      rw [hS]
      exact ww'.put_ty g1' (by simp)
  have ei : i = rows.length := by omega
  subst ei
  ((try simp (maxSteps := 3000000) (dsimp := false) (disch := first | omega | (simp only [len_new, len_put, len_kill]; omega)) only [↓ypre, ypost, ↓reduceIte, Nat.reduceEqDiff, Nat.reduceAdd, Nat.reduceSub, Nat.reduceLeDiff, Nat.zero_add, Nat.sub_zero, ynew, f2, f4, f10, f11, f12, decide_eq_false hlt, rdn_of g1, wr_of g2, o2.st.one, o2.st.cells, o2.out.one, o2.out.cells]); try simp only [yback])
  have := hQ sv so _ (sy.put (b := ⟨[I64 x.p, I64 x.n, sv, so], 48, false, true⟩) (show h.length ≤ H1.length by omega) (by omega)) ⟨o2.st.put_ty g2 (by simp), o2.out.put_ty g2 (by simp)⟩ ob
  unfold prgV at this
  rw [ep, en] at this
  exact this
end Go.Proofs.Ytilpnbejpndgpaa.X

/- PlainProgram of both sides. -/
set_option linter.unusedVariables false
set_option linter.unusedSimpArgs false
set_option maxRecDepth 20000
set_option maxHeartbeats 4000000
namespace Go.Proofs.Ytilpnbejpndgpaa.X
open Go Go.RowKit

def lsOK (p n : Int) (rows : List (List Int)) : Bool := isP p && (decide (1 ≤ n ∧ n ≤ 30) && (decide (1 ≤ (rows.length : Int) ∧ (rows.length : Int) ≤ 30) && isMat p n rows))
theorem lsOK_iff {p n : Int} {rows : List (List Int)} : lsOK p n rows = true ↔ isP p = true ∧ (1 ≤ n ∧ n ≤ 30) ∧ (1 ≤ (rows.length : Int) ∧ (rows.length : Int) ≤ 30) ∧ isMat p n rows = true := by
  simp [lsOK]
theorem lsOK_no {p n : Int} {rows : List (List Int)} (h : ¬ (isP p = true ∧ (1 ≤ n ∧ n ≤ 30) ∧ (1 ≤ (rows.length : Int) ∧ (rows.length : Int) ≤ 30) ∧ isMat p n rows = true)) : lsOK p n rows = false := by
  cases hc : lsOK p n rows with
  | false => rfl
  | true => exact (h (lsOK_iff.1 hc)).elim
def lsC (p n : Int) (rows : List (List Int)) : Int := if lsOK p n rows = true then 0 else 2
theorem s_l07Lists {v : Value} {rows : List (List Int)} {p n : Int} {h : AH} {Q : Value → AH → Prop} (hv : Rows h v rows) (hm : SmallM rows) (hQ : Q (I64 (lsC p n rows)) h) : WF S 89 [I64 p, I64 n, v] h Q := by
  refine WF_fn (fn := c89) rfl rfl ?_
  unfold c89
  have hrows := hv
  obtain ⟨cs, hv, hcl, hr⟩ := hv
  obtain ⟨hl, hl', _⟩ := hm
  have no : ¬ (isP p = true ∧ (1 ≤ n ∧ n ≤ 30) ∧ (1 ≤ (rows.length : Int) ∧ (rows.length : Int) ≤ 30) ∧ isMat p n rows = true) → Q (I64 2) h := fun hn => by
    unfold lsC at hQ
    rw [lsOK_no hn] at hQ
    exact hQ
  ((try simp (maxSteps := 3000000) (dsimp := false) (disch := first | omega | (simp only [len_new, len_put, len_kill]; omega)) only [↓ypre, ypost, ↓reduceIte, Nat.reduceEqDiff, Nat.reduceAdd, Nat.reduceSub, Nat.reduceLeDiff, Nat.zero_add, Nat.sub_zero, ynew]); try simp only [yback])
  refine s_l01Prime ?_
  cases h1 : isP p with
  | false =>
    ((try simp (maxSteps := 3000000) (dsimp := false) (disch := first | omega | (simp only [len_new, len_put, len_kill]; omega)) only [↓ypre, ypost, ↓reduceIte, Nat.reduceEqDiff, Nat.reduceAdd, Nat.reduceSub, Nat.reduceLeDiff, Nat.zero_add, Nat.sub_zero, ynew]); try simp only [yback])
    exact no (fun h => by rw [h.1] at h1; cases h1)
  | true =>
    have hp5 := isP_in h1
    ((try simp (maxSteps := 3000000) (dsimp := false) (disch := first | omega | (simp only [len_new, len_put, len_kill]; omega)) only [↓ypre, ypost, ↓reduceIte, Nat.reduceEqDiff, Nat.reduceAdd, Nat.reduceSub, Nat.reduceLeDiff, Nat.zero_add, Nat.sub_zero, ynew]); try simp only [yback])
    refine s_l01In ?_
    by_cases h2 : 1 ≤ n ∧ n ≤ 30
    case neg =>
      ((try simp (maxSteps := 3000000) (dsimp := false) (disch := first | omega | (simp only [len_new, len_put, len_kill]; omega)) only [↓ypre, ypost, ↓reduceIte, Nat.reduceEqDiff, Nat.reduceAdd, Nat.reduceSub, Nat.reduceLeDiff, Nat.zero_add, Nat.sub_zero, ynew, decide_eq_false h2]); try simp only [yback])
      exact no (fun h => h2 h.2.1)
    ((try simp (maxSteps := 3000000) (dsimp := false) (disch := first | omega | (simp only [len_new, len_put, len_kill]; omega)) only [↓ypre, ypost, ↓reduceIte, Nat.reduceEqDiff, Nat.reduceAdd, Nat.reduceSub, Nat.reduceLeDiff, Nat.zero_add, Nat.sub_zero, ynew, decide_eq_true h2, hv.len, hcl]); try simp only [yback])
    by_cases h3 : (rows.length : Int) < 1
    · ((try simp (maxSteps := 3000000) (dsimp := false) (disch := first | omega | (simp only [len_new, len_put, len_kill]; omega)) only [↓ypre, ypost, ↓reduceIte, Nat.reduceEqDiff, Nat.reduceAdd, Nat.reduceSub, Nat.reduceLeDiff, Nat.zero_add, Nat.sub_zero, ynew, decide_eq_true h3]); try simp only [yback])
      exact no (fun h => by have := h.2.2.1; omega)
    ((try simp (maxSteps := 3000000) (dsimp := false) (disch := first | omega | (simp only [len_new, len_put, len_kill]; omega)) only [↓ypre, ypost, ↓reduceIte, Nat.reduceEqDiff, Nat.reduceAdd, Nat.reduceSub, Nat.reduceLeDiff, Nat.zero_add, Nat.sub_zero, ynew, decide_eq_false h3, hv.len, hcl]); try simp only [yback])
    by_cases h4 : 30 < (rows.length : Int)
    · ((try simp (maxSteps := 3000000) (dsimp := false) (disch := first | omega | (simp only [len_new, len_put, len_kill]; omega)) only [↓ypre, ypost, ↓reduceIte, Nat.reduceEqDiff, Nat.reduceAdd, Nat.reduceSub, Nat.reduceLeDiff, Nat.zero_add, Nat.sub_zero, ynew, decide_eq_true h4]); try simp only [yback])
      exact no (fun h => by have := h.2.2.1; omega)
    ((try simp (maxSteps := 3000000) (dsimp := false) (disch := first | omega | (simp only [len_new, len_put, len_kill]; omega)) only [↓ypre, ypost, ↓reduceIte, Nat.reduceEqDiff, Nat.reduceAdd, Nat.reduceSub, Nat.reduceLeDiff, Nat.zero_add, Nat.sub_zero, ynew, decide_eq_false h4]); try simp only [yback])
    refine WC_loop_inv (fun m f K1 => ∃ (i : Nat), m = rows.length - i ∧ i ≤ rows.length ∧ f 0 = I64 p ∧ f 1 = I64 n ∧ f 2 = v ∧ f 7 = I64 i ∧ K1 = h ∧ (∀ j, j < i → ((rows.getD j []).length : Int) = n ∧ allIn p (rows.getD j []) = true)) ?_ (rows.length - 0) _ _ ⟨0, rfl, by omega, (by first | rfl | (simp [upd_apply]; done)), (by first | rfl | (simp [upd_apply]; done)), (by first | rfl | (simp [upd_apply]; done)), (by first | rfl | (simp [upd_apply]; done)), rfl, (by omega)⟩
    rintro m f K1 ⟨i, rfl, hi, f0, f1, f2, f7, rfl, hj⟩
    by_cases hlt : (i : Int) < rows.length
    · have hi' : i < rows.length := by omega
      have hix := hv.ix (k := .i64) (j := i) (by omega) (by omega)
      have hrd := hv.rd (j := i) (by omega) (by omega)
      ((try simp (maxSteps := 3000000) (dsimp := false) (disch := first | omega | (simp only [len_new, len_put, len_kill]; omega)) only [↓ypre, ypost, ↓reduceIte, Nat.reduceEqDiff, Nat.reduceAdd, Nat.reduceSub, Nat.reduceLeDiff, Nat.zero_add, Nat.sub_zero, ynew, f0, f1, f2, f7, hv.len, hcl, decide_eq_true hlt, hix, hrd, Int.toNat_natCast]); try simp only [yback])
      refine s_l05Numbers (hr i hi') (hl' i hi') hp5 ?_
      cases hb : (allIn p (rows.getD i []) && decide (((rows.getD i []).length : Int) = n)) with
      | true =>
        simp only [Bool.and_eq_true, decide_eq_true_eq] at hb
        ((try simp (maxSteps := 3000000) (dsimp := false) (disch := first | omega | (simp only [len_new, len_put, len_kill]; omega)) only [↓ypre, ypost, ↓reduceIte, Nat.reduceEqDiff, Nat.reduceAdd, Nat.reduceSub, Nat.reduceLeDiff, Nat.zero_add, Nat.sub_zero, ynew, f0, f1, f2, f7, wrap64_in]); try simp only [yback])
        refine InvQ_go (rows.length - (i + 1)) (by omega) ⟨(i + 1), rfl, by omega, (by first | rfl | exact f0 | (simp only [upd_apply]; rfl) | (show I64 _ = _; congr 1; omega)), (by first | rfl | exact f1 | (simp only [upd_apply]; rfl) | (show I64 _ = _; congr 1; omega)), (by first | rfl | exact f2 | (simp only [upd_apply]; rfl) | (show I64 _ = _; congr 1; omega)), (by first | rfl | exact f7 | (simp only [upd_apply]; rfl) | (show I64 _ = _; congr 1; omega)), rfl, ?_⟩
        intro j hj'
        rcases Nat.lt_succ_iff_lt_or_eq.1 hj' with hj' | rfl
        · exact hj j hj'
        · exact ⟨hb.2, hb.1⟩
      | false =>
        ((try simp (maxSteps := 3000000) (dsimp := false) (disch := first | omega | (simp only [len_new, len_put, len_kill]; omega)) only [↓ypre, ypost, ↓reduceIte, Nat.reduceEqDiff, Nat.reduceAdd, Nat.reduceSub, Nat.reduceLeDiff, Nat.zero_add, Nat.sub_zero, ynew, f0, f1, f2, f7]); try simp only [yback])
        refine no fun h => ?_
        have := isMat_iff.1 h.2.2.2 i hi'
        rw [this.2, decide_eq_true this.1] at hb
        cases hb
    · have ei : i = rows.length := by omega
      subst ei
      have hm : isMat p n rows = true := isMat_iff.2 hj
      ((try simp (maxSteps := 3000000) (dsimp := false) (disch := first | omega | (simp only [len_new, len_put, len_kill]; omega)) only [↓ypre, ypost, ↓reduceIte, Nat.reduceEqDiff, Nat.reduceAdd, Nat.reduceSub, Nat.reduceLeDiff, Nat.zero_add, Nat.sub_zero, ynew, f0, f1, f2, f7, hv.len, hcl, decide_eq_false hlt]); try simp only [yback])
      unfold lsC at hQ
      rw [lsOK_iff.2 ⟨h1, h2, by omega, hm⟩] at hQ
      exact hQ
theorem i_formsCode {v : Value} {rows : List (List Int)} {p n : Int} {h : AH} {Q : Value → AH → Prop} (hv : Rows h v rows) (hm : SmallM rows) (hQ : Q (I64 (lsC p n rows)) h) : WF S 91 [I64 p, I64 n, v] h Q := by
  refine WF_fn (fn := c91) rfl rfl ?_
  unfold c91
  have hrows := hv
  obtain ⟨cs, hv, hcl, hr⟩ := hv
  obtain ⟨hl, hl', _⟩ := hm
  have no : ¬ (isP p = true ∧ (1 ≤ n ∧ n ≤ 30) ∧ (1 ≤ (rows.length : Int) ∧ (rows.length : Int) ≤ 30) ∧ isMat p n rows = true) → Q (I64 2) h := fun hn => by
    unfold lsC at hQ
    rw [lsOK_no hn] at hQ
    exact hQ
  ((try simp (maxSteps := 3000000) (dsimp := false) (disch := first | omega | (simp only [len_new, len_put, len_kill]; omega)) only [↓ypre, ypost, ↓reduceIte, Nat.reduceEqDiff, Nat.reduceAdd, Nat.reduceSub, Nat.reduceLeDiff, Nat.zero_add, Nat.sub_zero, ynew]); try simp only [yback])
  refine i_isPrime ?_
  cases h1 : isP p with
  | false =>
    ((try simp (maxSteps := 3000000) (dsimp := false) (disch := first | omega | (simp only [len_new, len_put, len_kill]; omega)) only [↓ypre, ypost, ↓reduceIte, Nat.reduceEqDiff, Nat.reduceAdd, Nat.reduceSub, Nat.reduceLeDiff, Nat.zero_add, Nat.sub_zero, ynew]); try simp only [yback])
    exact no (fun h => by rw [h.1] at h1; cases h1)
  | true =>
    have hp5 := isP_in h1
    ((try simp (maxSteps := 3000000) (dsimp := false) (disch := first | omega | (simp only [len_new, len_put, len_kill]; omega)) only [↓ypre, ypost, ↓reduceIte, Nat.reduceEqDiff, Nat.reduceAdd, Nat.reduceSub, Nat.reduceLeDiff, Nat.zero_add, Nat.sub_zero, ynew]); try simp only [yback])
    by_cases h2 : n < 1
    · ((try simp (maxSteps := 3000000) (dsimp := false) (disch := first | omega | (simp only [len_new, len_put, len_kill]; omega)) only [↓ypre, ypost, ↓reduceIte, Nat.reduceEqDiff, Nat.reduceAdd, Nat.reduceSub, Nat.reduceLeDiff, Nat.zero_add, Nat.sub_zero, ynew, decide_eq_true h2]); try simp only [yback])
      exact no (fun h => by have := h.2.1; omega)
    ((try simp (maxSteps := 3000000) (dsimp := false) (disch := first | omega | (simp only [len_new, len_put, len_kill]; omega)) only [↓ypre, ypost, ↓reduceIte, Nat.reduceEqDiff, Nat.reduceAdd, Nat.reduceSub, Nat.reduceLeDiff, Nat.zero_add, Nat.sub_zero, ynew, decide_eq_false h2]); try simp only [yback])
    by_cases h2' : 30 < n
    · ((try simp (maxSteps := 3000000) (dsimp := false) (disch := first | omega | (simp only [len_new, len_put, len_kill]; omega)) only [↓ypre, ypost, ↓reduceIte, Nat.reduceEqDiff, Nat.reduceAdd, Nat.reduceSub, Nat.reduceLeDiff, Nat.zero_add, Nat.sub_zero, ynew, decide_eq_true h2']); try simp only [yback])
      exact no (fun h => by have := h.2.1; omega)
    ((try simp (maxSteps := 3000000) (dsimp := false) (disch := first | omega | (simp only [len_new, len_put, len_kill]; omega)) only [↓ypre, ypost, ↓reduceIte, Nat.reduceEqDiff, Nat.reduceAdd, Nat.reduceSub, Nat.reduceLeDiff, Nat.zero_add, Nat.sub_zero, ynew, decide_eq_false h2', hv.len, hcl]); try simp only [yback])
    by_cases h3 : (rows.length : Int) < 1
    · ((try simp (maxSteps := 3000000) (dsimp := false) (disch := first | omega | (simp only [len_new, len_put, len_kill]; omega)) only [↓ypre, ypost, ↓reduceIte, Nat.reduceEqDiff, Nat.reduceAdd, Nat.reduceSub, Nat.reduceLeDiff, Nat.zero_add, Nat.sub_zero, ynew, decide_eq_true h3]); try simp only [yback])
      exact no (fun h => by have := h.2.2.1; omega)
    ((try simp (maxSteps := 3000000) (dsimp := false) (disch := first | omega | (simp only [len_new, len_put, len_kill]; omega)) only [↓ypre, ypost, ↓reduceIte, Nat.reduceEqDiff, Nat.reduceAdd, Nat.reduceSub, Nat.reduceLeDiff, Nat.zero_add, Nat.sub_zero, ynew, decide_eq_false h3, hv.len, hcl]); try simp only [yback])
    by_cases h4 : 30 < (rows.length : Int)
    · ((try simp (maxSteps := 3000000) (dsimp := false) (disch := first | omega | (simp only [len_new, len_put, len_kill]; omega)) only [↓ypre, ypost, ↓reduceIte, Nat.reduceEqDiff, Nat.reduceAdd, Nat.reduceSub, Nat.reduceLeDiff, Nat.zero_add, Nat.sub_zero, ynew, decide_eq_true h4]); try simp only [yback])
      exact no (fun h => by have := h.2.2.1; omega)
    ((try simp (maxSteps := 3000000) (dsimp := false) (disch := first | omega | (simp only [len_new, len_put, len_kill]; omega)) only [↓ypre, ypost, ↓reduceIte, Nat.reduceEqDiff, Nat.reduceAdd, Nat.reduceSub, Nat.reduceLeDiff, Nat.zero_add, Nat.sub_zero, ynew, decide_eq_false h4, hv.len, hcl]); try simp only [yback])
    refine i_isMatrix hrows hl hl' ?_
    rw [decide_eq_true rfl, Bool.and_true]
    cases hm : isMat p n rows with
    | false =>
      ((try simp (maxSteps := 3000000) (dsimp := false) (disch := first | omega | (simp only [len_new, len_put, len_kill]; omega)) only [↓ypre, ypost, ↓reduceIte, Nat.reduceEqDiff, Nat.reduceAdd, Nat.reduceSub, Nat.reduceLeDiff, Nat.zero_add, Nat.sub_zero, ynew]); try simp only [yback])
      exact no (fun h => by rw [h.2.2.2] at hm; cases hm)
    | true =>
      ((try simp (maxSteps := 3000000) (dsimp := false) (disch := first | omega | (simp only [len_new, len_put, len_kill]; omega)) only [↓ypre, ypost, ↓reduceIte, Nat.reduceEqDiff, Nat.reduceAdd, Nat.reduceSub, Nat.reduceLeDiff, Nat.zero_add, Nat.sub_zero, ynew]); try simp only [yback])
      unfold lsC at hQ
      rw [lsOK_iff.2 ⟨h1, by omega, by omega, hm⟩] at hQ
      exact hQ
def plR (p n : Int) (rows : List (List Int)) : Prg × Int := if lsOK p n rows = true then (finP ⟨p, n, [], []⟩ rows rows.length, 0) else (⟨0, 0, [], []⟩, 2)
theorem plR_small (p n : Int) (rows : List (List Int)) : SmallP (plR p n rows).1 := by
  unfold plR SmallP SmallE
  split
  · rename_i h
    obtain ⟨h1, h2, h3, h4⟩ := lsOK_iff.1 h
    obtain ⟨_, _, h5, h6⟩ := finP_facts (x := ⟨p, n, [], []⟩) (N := 30) h1 (fun i hi => ⟨(isMat_iff.1 h4 i hi).2, by have := (isMat_iff.1 h4 i hi).1; omega⟩) h2 (i := rows.length) (Nat.le_refl _)
    simp only [List.length_nil, Nat.zero_add] at h5 h6
    simp only
    omega
  · simp
theorem s_Plain {u : Value} {p n : Int} {rows : List (List Int)} {h : AH} {Q : Value → AH → Prop} (hu : Rows h u rows) (hok : lsOK p n rows = true)
    (hQ : ∀ v' w' h', Stay h.length h h' → Way2 h' h.length v' w' (finP ⟨p, n, [], []⟩ rows rows.length) → OrdB v' w' → Q (prgV (finP ⟨p, n, [], []⟩ rows rows.length) v' w') h') : WF S 90 [I64 p, I64 n, u] h Q := by
  refine WF_fn (fn := c90) rfl rfl ?_
  unfold c90
  obtain ⟨hp, hn, hl, hm⟩ := lsOK_iff.1 hok
  have hrr : ∀ i, i < rows.length → allIn p (rows.getD i []) = true ∧ (rows.getD i []).length ≤ 10000 := fun i hi => ⟨(isMat_iff.1 hm i hi).2, by have := (isMat_iff.1 hm i hi).1; omega⟩
  obtain ⟨cs, hv, hcl, hr⟩ := hu.stays
  ((try simp (maxSteps := 3000000) (dsimp := false) (disch := first | omega | (simp only [len_new, len_put, len_kill]; omega)) only [↓ypre, ypost, ↓reduceIte, Nat.reduceEqDiff, Nat.reduceAdd, Nat.reduceSub, Nat.reduceLeDiff, Nat.zero_add, Nat.sub_zero, ynew]); try simp only [yback])
  generalize hH1 : AH.new h _ = H1
  obtain ⟨hb1, p1, n1⟩ := new_facts hH1
  generalize hH2 : AH.new H1 _ = H2
  obtain ⟨hb2, p2, n2⟩ := new_facts hH2
  generalize hH3 : AH.new H2 _ = H3
  obtain ⟨hb3, p3, n3⟩ := new_facts hH3
  generalize hH4 : AH.new H3 _ = H4
  obtain ⟨hb4, p4, n4⟩ := new_facts hH4
  have p14 := ((p1.trans p2).trans p3).trans p4
  have o0 : Way2 H4 h.length (.slice (some ⟨H1.length, 0, none⟩) 0 3) (.slice (some ⟨H2.length, 0, none⟩) 0 2) (finP ⟨p, n, [], []⟩ rows 0) :=
    ⟨⟨fun r hr => by simp [finP] at hr, .inr ⟨H1.length, true, rfl, by omega, by simp, pre_get (p3.trans p4) hb2⟩⟩, ⟨fun r hr => by simp [finP] at hr, .inr ⟨H2.length, true, rfl, by omega, by simp, pre_get p4 hb3⟩⟩⟩
  refine WC_loop_inv (fun m f K1 => ∃ (i : Nat) (v : Value) (w : Value), m = rows.length - i ∧ i ≤ rows.length ∧ f 2 = u ∧ f 6 = .pointer (some ⟨h.length, 0, none⟩) ∧ f 7 = .pointer (some ⟨H3.length, 0, none⟩) ∧ f 8 = I64 i ∧ (Stay h.length h K1) ∧ (Way2 K1 h.length v w (finP ⟨p, n, [], []⟩ rows i)) ∧ (0 < i → OrdB v w) ∧ (K1.get H3.length = some ⟨[I64 p, I64 n, v, w], 48, false, true⟩) ∧ (K1.get h.length = some ⟨[I64 0, I64 0, .slice none 0 0, .slice none 0 0], 48, false, true⟩)) ?_ (rows.length - 0) _ _ ⟨0, .slice (some ⟨H1.length, 0, none⟩) 0 3, .slice (some ⟨H2.length, 0, none⟩) 0 2, rfl, by omega, (by first | rfl | (simp [upd_apply]; done)), (by first | rfl | (simp [upd_apply]; done)), (by first | rfl | (simp [upd_apply]; done)), (by first | rfl | (simp [upd_apply]; done)), Stay.of p14, o0, (by omega), hb4, pre_get ((p2.trans p3).trans p4) hb1⟩
  rintro m f K1 ⟨i, v, w, rfl, hi, f2, f6, f7, f8, sy, o2, ob, g7, g6⟩
  obtain ⟨ep, en, sle, ole⟩ := finP_facts (x := ⟨p, n, [], []⟩) (N := 10000) hp hrr hn (i := i) hi
  have lt6 := get_lt g6
  have lt7 := get_lt g7
  have sl := sy.len
  by_cases hlt : (i : Int) < rows.length
  · have hi' : i < rows.length := by omega
    obtain ⟨hra, hrl⟩ := hrr i hi'
    have ix := (hv _ sy).ix (k := .i64) (j := i) (by omega) (by omega)
    have rd := (hv _ sy).rd (j := i) (by omega) (by omega)
    have hri := hr i hi'
    rw [Int.toNat_natCast] at rd
    have fin1 : finP ⟨p, n, [], []⟩ rows (i + 1) = rowP (finP ⟨p, n, [], []⟩ rows i) (rows.getD i []) := rfl
    generalize finP ⟨p, n, [], []⟩ rows i = X at *
    have epv : prgV X v w = .agg #[I64 p, I64 n, v, w] := by unfold prgV; rw [ep, en]
    ((try simp (maxSteps := 3000000) (dsimp := false) (disch := first | omega | (simp only [len_new, len_put, len_kill]; omega)) only [↓ypre, ypost, ↓reduceIte, Nat.reduceEqDiff, Nat.reduceAdd, Nat.reduceSub, Nat.reduceLeDiff, Nat.zero_add, Nat.sub_zero, ynew, f2, f6, f7, f8, (hv _ sy).len, hcl, decide_eq_true hlt, rdn_of g7, ix, rd]); try simp only [yback])
    rw [← epv]
    refine s_l07Row (by rw [ep]; exact hp) (by rw [en]; exact hn) o2 (by omega) (fun h' s' => hri h' (sy.trans s')) (by rw [ep]; exact hra) (by omega) (by simp at sle; omega) (by simp at ole; omega) fun v' w' H' sy' o' ob' => ?_
    have g7' := sy'.get _ _ g7 (by simp) (by simp)
    have g6' := sy'.get _ _ g6 (by simp) (by simp)
    have lt7' := get_lt g7'
    ((try simp (maxSteps := 3000000) (dsimp := false) (disch := first | omega | (simp only [len_new, len_put, len_kill]; omega)) only [↓ypre, ypost, ↓reduceIte, Nat.reduceEqDiff, Nat.reduceAdd, Nat.reduceSub, Nat.reduceLeDiff, Nat.zero_add, Nat.sub_zero, ynew, f2, f6, f7, f8, prgV, o'.st.one, o'.st.cells, o'.out.one, o'.out.cells, wr_of g7', wrap64_in]); try simp only [yback])
    refine InvQ_go (rows.length - (i + 1)) (by omega) ⟨(i + 1), v', w', rfl, by omega, (by first | rfl | exact f2 | (simp only [upd_apply]; rfl) | (show I64 _ = _; congr 1; omega)), (by first | rfl | exact f6 | (simp only [upd_apply]; rfl) | (show I64 _ = _; congr 1; omega)), (by first | rfl | exact f7 | (simp only [upd_apply]; rfl) | (show I64 _ = _; congr 1; omega)), (by first | rfl | exact f8 | (simp only [upd_apply]; rfl) | (show I64 _ = _; congr 1; omega)), ((sy.trans sy').put (by omega) (by omega)), ?_, (fun _ => ob'), ?_, (by rw [get_put_ne (by omega)]; exact g6')⟩
    · rw [fin1]
      exact ⟨o'.st.put_ty g7' (by simp), o'.out.put_ty g7' (by simp)⟩
    · rw [get_put_same lt7']
      show some (⟨[I64 X.p, I64 X.n, v', w'], _, _, _⟩ : Blk) = _
      rw [ep, en]
  have ei : i = rows.length := by omega
  subst ei
  ((try simp (maxSteps := 3000000) (dsimp := false) (disch := first | omega | (simp only [len_new, len_put, len_kill]; omega)) only [↓ypre, ypost, ↓reduceIte, Nat.reduceEqDiff, Nat.reduceAdd, Nat.reduceSub, Nat.reduceLeDiff, Nat.zero_add, Nat.sub_zero, ynew, f2, f6, f7, f8, (hv _ sy).len, hcl, decide_eq_false hlt, rdn_of g7, wr_of g6, o2.st.one, o2.st.cells, o2.out.one, o2.out.cells]); try simp only [yback])
  have := hQ v w _ (sy.put (b := ⟨[I64 p, I64 n, v, w], 48, false, true⟩) (Nat.le_refl _) (Nat.le_refl _)) ⟨o2.st.put_ty g6 (by simp), o2.out.put_ty g6 (by simp)⟩ (ob (by omega))
  unfold prgV at this
  rw [ep, en] at this
  exact this
theorem s_PlainProgram {u : Value} {p n : Int} {rows : List (List Int)} {h : AH} {Q : Value → AH → Prop} (hu : Rows h u rows) (hm : SmallM rows)
    (hQ : ∀ v' w' h', h <+: h' → InP h.length h'.length h' v' w' (plR p n rows).1 → Q (.tuple #[prgV (plR p n rows).1 v' w', I64 (plR p n rows).2]) h') : WF S 42 [I64 p, I64 n, u] h Q := by
  refine WF_fn (fn := c42) rfl rfl ?_
  unfold c42
  ((try simp (maxSteps := 3000000) (dsimp := false) (disch := first | omega | (simp only [len_new, len_put, len_kill]; omega)) only [↓ypre, ypost, ↓reduceIte, Nat.reduceEqDiff, Nat.reduceAdd, Nat.reduceSub, Nat.reduceLeDiff, Nat.zero_add, Nat.sub_zero, ynew]); try simp only [yback])
  generalize hH1 : AH.new h _ = H1
  obtain ⟨hb1, p1, n1⟩ := new_facts hH1
  have lt1 := get_lt hb1
  refine s_l07Lists (hu.pre p1) hm ?_
  unfold plR at hQ
  unfold lsC
  cases hok : lsOK p n rows with
  | false =>
    rw [hok, if_neg (by decide)] at hQ
    rw [if_neg (by decide)]
    ((try simp (maxSteps := 3000000) (dsimp := false) (disch := first | omega | (simp only [len_new, len_put, len_kill]; omega)) only [↓ypre, ypost, ↓reduceIte, Nat.reduceEqDiff, Nat.reduceAdd, Nat.reduceSub, Nat.reduceLeDiff, Nat.zero_add, Nat.sub_zero, ynew, decide_eq_true (show (2 : Int) ≠ 0 by decide), wr_of hb1]); try simp only [yback])
    exact hQ (.slice none 0 0) (.slice none 0 0) _ (pre_put p1 (Nat.le_refl _)) ⟨h.length, Nat.le_refl _, by rw [len_put]; omega, .inl ⟨rfl, rfl⟩, .inl ⟨rfl, rfl⟩⟩
  | true =>
    rw [hok, if_pos rfl] at hQ
    rw [if_pos rfl]
    ((try simp (maxSteps := 3000000) (dsimp := false) (disch := first | omega | (simp only [len_new, len_put, len_kill]; omega)) only [↓ypre, ypost, ↓reduceIte, Nat.reduceEqDiff, Nat.reduceAdd, Nat.reduceSub, Nat.reduceLeDiff, Nat.zero_add, Nat.sub_zero, ynew, decide_eq_false (show ¬ (0 : Int) ≠ 0 from fun y => y rfl)]); try simp only [yback])
    refine s_Plain (hu.pre p1) hok fun v' w' H' sy o ob => ?_
    have g1 := sy.get _ _ hb1 (by simp) (by simp)
    have sl := sy.len
    have ip := (o.inP ob sl).putb (n := h.length) (bl := ⟨[I64 (finP ⟨p, n, [], []⟩ rows rows.length).p, I64 (finP ⟨p, n, [], []⟩ rows rows.length).n, v', w'], 48, false, true⟩) (by omega)
    ((try simp (maxSteps := 3000000) (dsimp := false) (disch := first | omega | (simp only [len_new, len_put, len_kill]; omega)) only [↓ypre, ypost, ↓reduceIte, Nat.reduceEqDiff, Nat.reduceAdd, Nat.reduceSub, Nat.reduceLeDiff, Nat.zero_add, Nat.sub_zero, ynew, prgV, o.st.one, o.st.cells, o.out.one, o.out.cells, wr_of g1]); try simp only [yback])
    have := hQ v' w' _ (pre_put (p1.trans (sy.pre _ (Nat.le_refl _) (List.prefix_refl _))) (Nat.le_refl _)) (ip.mono (by omega) (by rw [len_put]; exact Nat.le_refl _))
    unfold prgV at this
    exact this
theorem i_PlainProgram {u : Value} {p n : Int} {rows : List (List Int)} {h : AH} {Q : Value → AH → Prop} (hu : Rows h u rows) (hm : SmallM rows)
    (hQ : ∀ v' w' h', h <+: h' → InP h.length h'.length h' v' w' (plR p n rows).1 → Q (.tuple #[prgV (plR p n rows).1 v' w', I64 (plR p n rows).2]) h') : WF S 44 [I64 p, I64 n, u] h Q := by
  refine WF_fn (fn := c44) rfl rfl ?_
  unfold c44
  ((try simp (maxSteps := 3000000) (dsimp := false) (disch := first | omega | (simp only [len_new, len_put, len_kill]; omega)) only [↓ypre, ypost, ↓reduceIte, Nat.reduceEqDiff, Nat.reduceAdd, Nat.reduceSub, Nat.reduceLeDiff, Nat.zero_add, Nat.sub_zero, ynew]); try simp only [yback])
  generalize hH1 : AH.new h _ = H1
  obtain ⟨hb1, p1, n1⟩ := new_facts hH1
  have lt1 := get_lt hb1
  refine i_formsCode (hu.pre p1) hm ?_
  unfold plR at hQ
  unfold lsC
  cases hok : lsOK p n rows with
  | false =>
    rw [hok, if_neg (by decide)] at hQ
    rw [if_neg (by decide)]
    ((try simp (maxSteps := 3000000) (dsimp := false) (disch := first | omega | (simp only [len_new, len_put, len_kill]; omega)) only [↓ypre, ypost, ↓reduceIte, Nat.reduceEqDiff, Nat.reduceAdd, Nat.reduceSub, Nat.reduceLeDiff, Nat.zero_add, Nat.sub_zero, ynew, decide_eq_true (show (2 : Int) ≠ 0 by decide), wr_of hb1]); try simp only [yback])
    exact hQ (.slice none 0 0) (.slice none 0 0) _ (pre_put p1 (Nat.le_refl _)) ⟨h.length, Nat.le_refl _, by rw [len_put]; omega, .inl ⟨rfl, rfl⟩, .inl ⟨rfl, rfl⟩⟩
  | true =>
    rw [hok, if_pos rfl] at hQ
    rw [if_pos rfl]
    obtain ⟨hp, hn, hl, hmm⟩ := lsOK_iff.1 hok
    ((try simp (maxSteps := 3000000) (dsimp := false) (disch := first | omega | (simp only [len_new, len_put, len_kill]; omega)) only [↓ypre, ypost, ↓reduceIte, Nat.reduceEqDiff, Nat.reduceAdd, Nat.reduceSub, Nat.reduceLeDiff, Nat.zero_add, Nat.sub_zero, ynew, decide_eq_false (show ¬ (0 : Int) ≠ 0 from fun y => y rfl)]); try simp only [yback])
    have o0 : Way2 H1 H1.length (.slice none 0 0) (.slice none 0 0) ⟨p, n, [], []⟩ := ⟨⟨fun r hr => by simp at hr, .inl ⟨rfl, rfl⟩⟩, ⟨fun r hr => by simp at hr, .inl ⟨rfl, rfl⟩⟩⟩
    rw [show Value.agg #[I64 p, I64 n, .slice none 0 0, .slice none 0 0] = prgV ⟨p, n, [], []⟩ (.slice none 0 0) (.slice none 0 0) from rfl]
    refine i_finished hp hn o0 (Nat.le_refl _) (hu.pre p1).stays (fun i hi => ⟨(isMat_iff.1 hmm i hi).2, by have := (isMat_iff.1 hmm i hi).1; omega⟩) (by omega) (by simp) (by simp) fun v' w' H' sy o ob => ?_
    have g1 := sy.get _ _ hb1 (by simp) (by simp)
    have sl := sy.len
    have ip := (o.inP (ob (by omega)) sl).putb (n := h.length) (bl := ⟨[I64 (finP ⟨p, n, [], []⟩ rows rows.length).p, I64 (finP ⟨p, n, [], []⟩ rows rows.length).n, v', w'], 48, false, true⟩) (by omega)
    ((try simp (maxSteps := 3000000) (dsimp := false) (disch := first | omega | (simp only [len_new, len_put, len_kill]; omega)) only [↓ypre, ypost, ↓reduceIte, Nat.reduceEqDiff, Nat.reduceAdd, Nat.reduceSub, Nat.reduceLeDiff, Nat.zero_add, Nat.sub_zero, ynew, prgV, o.st.one, o.st.cells, o.out.one, o.out.cells, wr_of g1]); try simp only [yback])
    have := hQ v' w' _ (pre_put (p1.trans (sy.pre _ (Nat.le_refl _) (List.prefix_refl _))) (Nat.le_refl _)) (ip.mono (by omega) (by rw [len_put]; exact Nat.le_refl _))
    unfold prgV at this
    exact this
end Go.Proofs.Ytilpnbejpndgpaa.X
