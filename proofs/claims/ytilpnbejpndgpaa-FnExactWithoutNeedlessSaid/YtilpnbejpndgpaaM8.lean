/- Texts of one claim, put together by merge.py: XP8, XP9, XP10, XP11. -/
import Derived.Test.YtilpnbejpndgpaaM6
/- Elements under way beside other things under way; lists of truth values. -/
set_option linter.unusedVariables false
set_option linter.unusedSimpArgs false
set_option maxRecDepth 20000
set_option maxHeartbeats 4000000
namespace Go.Proofs.Ytilpnbejpndgpaa.X
open Go Go.RowKit

/-- Elements under way: nil, or a block of one's own behind a place and other than some blocks. -/
def WayX (e : TypeId) (k : IntKind) (w : Nat) (h : AH) (lo : Nat) (ex : List Nat) (sv : Value) (L : List (List Int)) : Prop :=
  Wid w L ∧ ((sv = .slice none 0 0 ∧ L = []) ∨ ∃ kb full, sv = .slice (some ⟨kb, 0, none⟩) L.length w ∧ lo ≤ kb ∧ kb ∉ ex ∧ h.get kb = some ⟨cel k L.flatten, e, false, full⟩)
section
variable {e : TypeId} {k : IntKind} {w : Nat} {h h' : AH} {lo : Nat} {ex : List Nat} {sv : Value} {L : List (List Int)}
theorem WayX.pre (o : WayX e k w h lo ex sv L) (p : h <+: h') : WayX e k w h' lo ex sv L := by
  obtain ⟨hw, o | ⟨kb, full, h1, h2, h3, h4⟩⟩ := o
  · exact ⟨hw, .inl o⟩
  · exact ⟨hw, .inr ⟨kb, full, h1, h2, h3, pre_get p h4⟩⟩
theorem WayX.one (o : WayX e k w h lo ex sv L) : isOne sv = true := by
  obtain ⟨hw, ⟨rfl, _⟩ | ⟨kb, full, rfl, h2, h3, h4⟩⟩ := o <;> rfl
theorem WayX.cells (o : WayX e k w h lo ex sv L) : cellsL sv = [sv] := by
  obtain ⟨hw, ⟨rfl, _⟩ | ⟨kb, full, rfl, h2, h3, h4⟩⟩ := o <;> rfl
theorem WayX.len (o : WayX e k w h lo ex sv L) : lenV sv = some (I64 L.length) := by
  obtain ⟨hw, ⟨rfl, rfl⟩ | ⟨kb, full, rfl, h2, h3, h4⟩⟩ := o <;> rfl
theorem WayX.put {n : Nat} {b : Blk} (o : WayX e k w h lo ex sv L) (hn : n < lo ∨ n ∈ ex) : WayX e k w (h.put n b) lo ex sv L := by
  obtain ⟨hw, o | ⟨kb, full, h1, h2, h3, h4⟩⟩ := o
  · exact ⟨hw, .inl o⟩
  · refine ⟨hw, .inr ⟨kb, full, h1, h2, h3, ?_⟩⟩
    rw [get_put_ne]
    · exact h4
    · rintro rfl
      rcases hn with hn | hn
      · omega
      · exact h3 hn
/-- Other excluded blocks. -/
theorem WayX.exc {ex' : List Nat} (o : WayX e k w h lo ex sv L) (he : ∀ m, m ∈ ex' → m ∈ ex ∨ h.length ≤ m ∨ m < lo) : WayX e k w h lo ex' sv L := by
  obtain ⟨hw, o | ⟨kb, full, h1, h2, h3, h4⟩⟩ := o
  · exact ⟨hw, .inl o⟩
  · refine ⟨hw, .inr ⟨kb, full, h1, h2, fun hk => ?_, h4⟩⟩
    have := get_lt h4
    rcases he _ hk with h | h | h
    · exact h3 h
    · omega
    · omega
/-- What keeps all blocks but some excluded ones. -/
theorem WayX.keep (o : WayX e k w h lo ex sv L) (hk : ∀ m c f, m ∉ ex → lo ≤ m → h.get m = some ⟨c, e, false, f⟩ → h'.get m = some ⟨c, e, false, f⟩) : WayX e k w h' lo ex sv L := by
  obtain ⟨hw, o | ⟨kb, full, h1, h2, h3, h4⟩⟩ := o
  · exact ⟨hw, .inl o⟩
  · exact ⟨hw, .inr ⟨kb, full, h1, h2, h3, hk _ _ _ h3 h2 h4⟩⟩
/-- The blocks that hold it. -/
theorem WayX.hold (o : WayX e k w h lo ex sv L) : ∃ E : List Nat, (∀ m, m ∈ E → lo ≤ m ∧ m < h.length ∧ m ∉ ex) ∧ ∀ h' : AH, (∀ m b, m ∈ E → h.get m = some b → h'.get m = some b) → WayX e k w h' lo ex sv L ∧ InE k w lo h.length h' sv L := by
  obtain ⟨hw, o | ⟨kb, full, h1, h2, h3, h4⟩⟩ := o
  · exact ⟨[], fun m hm => by simp at hm, fun h' _ => ⟨⟨hw, .inl o⟩, .inl o⟩⟩
  · refine ⟨[kb], fun m hm => ?_, fun h' hk => ⟨⟨hw, .inr ⟨kb, full, h1, h2, h3, hk _ _ (by simp) h4⟩⟩, .inr ⟨kb, e, full, ⟨h2, get_lt h4⟩, h1, hk _ _ (by simp) h4, hw⟩⟩⟩
    rw [List.mem_singleton] at hm
    subst hm
    exact ⟨h2, get_lt h4, h3⟩
theorem WayX.mlo {lo' : Nat} (o : WayX e k w h lo ex sv L) (hl : lo' ≤ lo) : WayX e k w h lo' ex sv L := by
  obtain ⟨hw, o | ⟨kb, full, h1, h2, h3, h4⟩⟩ := o
  · exact ⟨hw, .inl o⟩
  · exact ⟨hw, .inr ⟨kb, full, h1, by omega, h3, h4⟩⟩
theorem WayX.inE (o : WayX e k w h lo ex sv L) : InE k w lo h.length h sv L := by
  obtain ⟨hw, o | ⟨kb, full, h1, h2, h3, h4⟩⟩ := o
  · exact .inl o
  · exact .inr ⟨kb, e, full, ⟨h2, get_lt h4⟩, h1, h4, hw⟩
theorem WayX.app {H : AH} {q : List Int} {e' : TypeId} {ro full : Bool} {bytes : Nat} (o : WayX e k w H lo ex sv L) (hq : q.length = w) (hl : ((L.length : Int) + 1) * bytes ≤ 140737488355328) (hn : (L.length : Int) < 1048576) (hlo : lo ≤ H.length) (hex : ∀ m, m ∈ ex → m < H.length)
    {Q : Value → AH → Prop} (hQ : ∀ (sv' : Value) (H' : AH), H'.length = H.length + 2 → (∀ h0 : AH, h0.length ≤ lo → h0 <+: H → h0 <+: H') → (∀ m b, m < lo ∨ m ∈ ex → H.get m = some b → H'.get m = some b) → WayX e k w H' H.length ex sv' (L ++ [q]) → Q sv' H') :
    OQ (appV e w bytes sv (.slice (some ⟨H.length, 0, none⟩) 1 w) (H.new ⟨cel k q, e', ro, full⟩)) Q := by
  have hr : (H.new ⟨cel k q, e', ro, full⟩).rdn H.length 0 w = some (cel k q) := by
    rw [rdn_of get_new_same]
    simp only
    rw [if_pos (by rw [cel_len, hq]; omega), List.drop_zero, List.take_of_length_le (by rw [cel_len, hq]; omega)]
  obtain ⟨hw, ⟨rfl, rfl⟩ | ⟨kb, fu, rfl, h2, h3, h4⟩⟩ := o
  · rw [app_nilW (.inl rfl) hr (by simp only [List.length_nil] at hl; omega), OQ_some]
    refine hQ _ _ (by rw [len_new, len_new]) (fun h0 _ p => pre_new (pre_new p)) (fun m b hm o => get_new_any (get_new_any o)) ⟨?_, .inr ⟨_, false, rfl, by rw [len_new]; omega, fun hm => by have := hex _ hm; rw [len_new] at this; omega, ?_⟩⟩
    · intro r hr
      rw [List.nil_append, List.mem_singleton] at hr
      rw [hr, hq]
    · rw [get_new_same]
      simp
  · have hk : (H.new ⟨cel k q, e', ro, full⟩).get kb = some ⟨cel k L.flatten, e, false, fu⟩ := get_new_any h4
    have hkb := get_lt h4
    rw [app_ownW hk (by rw [cel_len, flat_len hw]) hr ⟨hl, by omega⟩, OQ_some]
    refine hQ _ _ (by rw [len_new, len_kill, len_new]) (fun h0 q p => pre_new (pre_kill (pre_new p) (by omega))) (fun m b hm o => ?_) ⟨?_, .inr ⟨(H.new ⟨cel k q, e', ro, full⟩).length, false, by simp, by rw [len_new]; omega, fun hm => by have := hex _ hm; rw [len_new] at this; omega, ?_⟩⟩
    · refine get_new_any ?_
      rw [get_kill_ne]
      · exact get_new_any o
      · rintro rfl
        rcases hm with hm | hm
        · omega
        · exact h3 hm
    · intro r hr
      rcases List.mem_append.1 hr with hr | hr
      · exact hw r hr
      · rw [List.mem_singleton.1 hr, hq]
    · rw [get_new_eq (by rw [len_kill])]
      simp [cel_app]
end

/-! ### Lists of truth values -/
def Bls (h : AH) (n : Nat) (bs : List Bool) : Prop := h.get n = some ⟨bs.map Value.bool, 4, false, true⟩
section
variable {h h' : AH} {n : Nat} {bs : List Bool}
theorem Bls.pre (o : Bls h n bs) (p : h <+: h') : Bls h' n bs := pre_get p o
theorem Bls.lt (o : Bls h n bs) : n < h.length := get_lt o
theorem Bls.rd {j : Nat} (o : Bls h n bs) (hj : j < bs.length) : h.rd1 n j = some (.bool (bs.getD j false)) := by
  rw [rd1_of o]
  simp [List.getD_eq_getElem?_getD, hj]
theorem Bls.put_ne {m : Nat} {b : Blk} (o : Bls h n bs) (e : m ≠ n) : Bls (h.put m b) n bs := by
  unfold Bls
  rw [get_put_ne e]
  exact o
theorem Bls.wr {j : Nat} {x : Bool} (o : Bls h n bs) (hj : j < bs.length) : ∃ h', h.wr n j [.bool x] = some h' ∧ h' = h.put n ⟨(bs.set j x).map Value.bool, 4, false, true⟩ ∧ Bls h' n (bs.set j x) := by
  have e : splice (bs.map Value.bool) j [.bool x] = (bs.set j x).map Value.bool := by
    rw [splice_set (by simpa using hj)]
    simp [List.map_set]
  refine ⟨_, ?_, rfl, get_put_same o.lt⟩
  rw [wr_of o, if_pos ⟨rfl, by simp only [List.length_map, List.length_singleton]; omega⟩, e]
end
theorem zrep_bools : ∀ n, zrep n [.bool false] = (List.replicate n false).map Value.bool
  | 0 => rfl
  | n + 1 => by simp [zrep, zrep_bools n, List.replicate_succ]
theorem InP.inP {a b : Nat} {h : AH} {v w : Value} {x : Prg} (o : InP a b h v w x) : InP a b h v w x := o
end Go.Proofs.Ytilpnbejpndgpaa.X

/- Programs without needless steps, plainly. -/
set_option linter.unusedVariables false
set_option linter.unusedSimpArgs false
set_option maxRecDepth 20000
set_option maxHeartbeats 4000000
namespace Go.Proofs.Ytilpnbejpndgpaa.X
open Go Go.RowKit

theorem setB_getD {l : List Bool} {i j : Nat} {b : Bool} (hi : i < l.length) : (l.set i b).getD j false = if j = i then b else l.getD j false := by
  rw [List.getD_eq_getElem?_getD, List.getD_eq_getElem?_getD, List.getElem?_set]
  by_cases h : i = j
  · subst h
    simp [hi]
  · rw [if_neg h, if_neg (fun e => h e.symm)]
theorem setB_mono {l : List Bool} {i j : Nat} (h : l.getD j false = true) : (l.set i true).getD j false = true := by
  rw [List.getD_eq_getElem?_getD, List.getElem?_set]
  split
  · rename_i e
    subst e
    have : i < l.length := by
      apply Decidable.byContradiction
      intro hc
      rw [List.getD_eq_getElem?_getD, List.getElem?_eq_none (by omega)] at h
      cases h
    simp [this]
  · rw [← List.getD_eq_getElem?_getD]
    exact h
section
variable (x : Prg)
def nSt (i : Nat) (r : Nat) : Nat := nq (x.st.getD i []) r
def nOut (i : Nat) : Nat := nq (x.out.getD i []) 0
def uO : Nat → List Bool
  | 0 => List.replicate (x.n.toNat + x.st.length) false
  | i + 1 => if (x.out.getD i []).getD 1 0 = 0 then uO i else (uO i).set (nOut x i) true
def uS : Nat → List Bool
  | 0 => uO x x.out.length
  | m + 1 => if (uS m).getD (x.n.toNat + (x.st.length - 1 - m)) false = true then ((uS m).set (nSt x (x.st.length - 1 - m) 0) true).set (nSt x (x.st.length - 1 - m) 1) true else uS m
def kp (j : Nat) : Bool := decide (j < x.n.toNat) || (uS x x.st.length).getD j false
def rk : Nat → Int
  | 0 => 0
  | j + 1 => rk j + (if kp x j = true then 1 else 0)
def wnSt : Nat → List (List Int)
  | 0 => []
  | i + 1 => if (uS x x.st.length).getD (x.n.toNat + i) false = true then wnSt i ++ [[rk x (nSt x i 0), rk x (nSt x i 1), (x.st.getD i []).getD 2 0]] else wnSt i
def wnOut : Nat → List (List Int)
  | 0 => []
  | i + 1 => wnOut i ++ [[rk x (nOut x i), (x.out.getD i []).getD 1 0]]
def wnP : Prg := ⟨x.p, x.n, wnSt x x.st.length, wnOut x x.out.length⟩
def wnR : Prg × Int := if isPrg x = true then (wnP x, 0) else (⟨0, 0, [], []⟩, 1)
end
variable {x : Prg}
theorem uO_len : ∀ {i : Nat}, (uO x i).length = x.n.toNat + x.st.length
  | 0 => by simp [uO]
  | i + 1 => by
    unfold uO
    split
    · exact uO_len
    · rw [List.length_set]
      exact uO_len
theorem uS_len : ∀ {m : Nat}, (uS x m).length = x.n.toNat + x.st.length
  | 0 => uO_len
  | m + 1 => by
    unfold uS
    split
    · rw [List.length_set, List.length_set]
      exact uS_len
    · exact uS_len
theorem rk_in : ∀ {j : Nat}, 0 ≤ rk x j ∧ rk x j ≤ j
  | 0 => by simp [rk]
  | j + 1 => by
    have := rk_in (j := j)
    unfold rk
    split <;> omega
theorem rk_low : ∀ {j : Nat}, j ≤ x.n.toNat → rk x j = j
  | 0, _ => rfl
  | j + 1, h => by
    have := rk_low (j := j) (by omega)
    unfold rk
    rw [if_pos (by unfold kp; rw [decide_eq_true (by omega)]; rfl)]
    omega
theorem wnSt_len : ∀ {i : Nat}, (((wnSt x i).length : Nat) : Int) = rk x (x.n.toNat + i) - x.n.toNat
  | 0 => by rw [Nat.add_zero, rk_low (Nat.le_refl _)]; simp [wnSt]
  | i + 1 => by
    have ih := wnSt_len (i := i)
    have e : rk x (x.n.toNat + (i + 1)) = rk x (x.n.toNat + i) + (if kp x (x.n.toNat + i) = true then 1 else 0) := rfl
    have ek : kp x (x.n.toNat + i) = (uS x x.st.length).getD (x.n.toNat + i) false := by
      unfold kp
      rw [decide_eq_false (by omega), Bool.false_or]
    rw [e, ek]
    unfold wnSt
    split
    · rw [List.length_append, List.length_singleton]
      omega
    · omega
theorem wnSt_le : ∀ {i : Nat}, (wnSt x i).length ≤ i
  | 0 => Nat.le_refl _
  | i + 1 => by
    have := wnSt_le (i := i)
    unfold wnSt
    split
    · rw [List.length_append, List.length_singleton]
      omega
    · omega
theorem wnOut_len : ∀ {i : Nat}, (wnOut x i).length = i
  | 0 => rfl
  | i + 1 => by simp [wnOut, wnOut_len (i := i)]
/-- What the steps of a program say, by numbers. -/
theorem nSt_lt {v w : Value} {h : AH} (hv : PrgR h v w x) (pf : PrgF x) {i : Nat} (hi : i < x.st.length) : nSt x i 0 < x.n.toNat + i ∧ nSt x i 1 < x.n.toNat + i := by
  obtain ⟨a, b, d, hq⟩ := all3 (hv.1.wid hi)
  have s3 := pf.st3 hi hq
  unfold nSt nq
  rw [hq]
  show a.toNat < _ ∧ b.toNat < _
  omega
theorem nOut_lt {v w : Value} {h : AH} (hv : PrgR h v w x) (pf : PrgF x) {i : Nat} (hi : i < x.out.length) : nOut x i < x.n.toNat + x.st.length := by
  obtain ⟨a, b, hq⟩ := all2 (hv.2.wid hi)
  have s2 := pf.out2 hi hq
  unfold nOut nq
  rw [hq]
  show a.toNat < _
  omega
theorem uO_mono {i j m : Nat} (h : (uO x i).getD j false = true) : (uO x (i + m)).getD j false = true := by
  induction m with
  | zero => exact h
  | succ m ih =>
    rw [show i + (m + 1) = (i + m) + 1 by omega]
    unfold uO
    split
    · exact ih
    · exact setB_mono ih
theorem uS_mono {m j k : Nat} (h : (uS x m).getD j false = true) : (uS x (m + k)).getD j false = true := by
  induction k with
  | zero => exact h
  | succ k ih =>
    rw [show m + (k + 1) = (m + k) + 1 by omega]
    unfold uS
    split
    · exact setB_mono (setB_mono ih)
    · exact ih
theorem uS_out {v w : Value} {h : AH} (hv : PrgR h v w x) (pf : PrgF x) {i : Nat} (hi : i < x.out.length) (h0 : (x.out.getD i []).getD 1 0 ≠ 0) : (uS x x.st.length).getD (nOut x i) false = true := by
  have h1 : (uO x (i + 1)).getD (nOut x i) false = true := by
    unfold uO
    rw [if_neg h0, setB_getD (by rw [uO_len]; exact nOut_lt hv pf hi), if_pos rfl]
  have h2 := uO_mono (m := x.out.length - (i + 1)) h1
  rw [show i + 1 + (x.out.length - (i + 1)) = x.out.length by omega] at h2
  have h3 := uS_mono (m := 0) (k := x.st.length) h2
  rw [Nat.zero_add] at h3
  exact h3
theorem uS_closed {v w : Value} {h : AH} (hv : PrgR h v w x) (pf : PrgF x) : ∀ {m : Nat}, m ≤ x.st.length → ∀ i, x.st.length - m ≤ i → i < x.st.length → (uS x m).getD (x.n.toNat + i) false = true →
    (uS x m).getD (nSt x i 0) false = true ∧ (uS x m).getD (nSt x i 1) false = true
  | 0, _, i, h1, h2, _ => by omega
  | m + 1, hm, i, h1, h2, hu => by
    have ih := uS_closed hv pf (m := m) (by omega)
    have lt := nSt_lt hv pf (i := x.st.length - 1 - m) (by omega)
    have ul := uS_len (x := x) (m := m)
    unfold uS at hu ⊢
    split at hu
    · rename_i hc
      rw [if_pos hc]
      rw [setB_getD (by rw [List.length_set]; omega), if_neg (by omega), setB_getD (by omega), if_neg (by omega)] at hu
      by_cases hi : i = x.st.length - 1 - m
      · subst hi
        refine ⟨setB_mono ?_, ?_⟩
        · rw [setB_getD (by omega), if_pos rfl]
        · rw [setB_getD (by rw [List.length_set]; omega), if_pos rfl]
      · have := ih i (by omega) h2 hu
        exact ⟨setB_mono (setB_mono this.1), setB_mono (setB_mono this.2)⟩
    · rename_i hc
      rw [if_neg hc]
      by_cases hi : i = x.st.length - 1 - m
      · subst hi
        exact absurd hu hc
      · exact ih i (by omega) h2 hu
theorem kp_of {j : Nat} (h : (uS x x.st.length).getD j false = true) : kp x j = true := by
  unfold kp
  rw [h, Bool.or_true]
/-- The new numbers of what is kept. -/
def nmS (x : Prg) (i : Nat) : List Int := gen (x.n.toNat + x.st.length) fun j => if j < i ∧ kp x j = true then rk x j else 0
theorem nmS_len {i : Nat} : (nmS x i).length = x.n.toNat + x.st.length := gen_len
theorem nmS_zero : nmS x 0 = List.replicate (x.n.toNat + x.st.length) 0 := (gen_ext (by simp) fun i hi => by simp [List.getD_eq_getElem?_getD, List.getElem?_replicate, hi]).symm
theorem nmS_set {i : Nat} (hi : i < x.n.toNat + x.st.length) (hk : kp x i = true) : (nmS x i).set i (rk x i) = nmS x (i + 1) := by
  refine gen_ext (by rw [List.length_set, nmS_len]) fun c hc => ?_
  rw [set_getD (by rw [nmS_len]; exact hi)]
  by_cases h : c = i
  · subst h
    rw [if_pos rfl, if_pos ⟨by omega, hk⟩]
  · rw [if_neg h]
    unfold nmS
    rw [gen_get hc]
    by_cases h2 : c < i ∧ kp x c = true
    · rw [if_pos h2, if_pos ⟨by omega, h2.2⟩]
    · rw [if_neg h2, if_neg (fun q => h2 ⟨by omega, q.2⟩)]
theorem nmS_skip {i : Nat} (hk : ¬ kp x i = true) : nmS x i = nmS x (i + 1) := gen_congr fun c hc => by
  by_cases h2 : c < i ∧ kp x c = true
  · rw [if_pos h2, if_pos ⟨by omega, h2.2⟩]
  · rw [if_neg h2, if_neg]
    rintro ⟨h3, h4⟩
    by_cases h : c = i
    · subst h
      exact hk h4
    · exact h2 ⟨by omega, h4⟩
theorem nmS_at {j : Nat} (hj : j < x.n.toNat + x.st.length) (hk : kp x j = true) : (nmS x (x.n.toNat + x.st.length)).getD j 0 = rk x j := by
  unfold nmS
  rw [gen_get hj, if_pos ⟨hj, hk⟩]
theorem wnR_small (x : Prg) : SmallP (wnR x).1 := by
  unfold wnR SmallP SmallE
  split
  · rename_i h
    have pf := isPrg_facts h
    have h1 := pf.st
    have h2 := pf.out
    have h3 := wnSt_le (x := x) (i := x.st.length)
    simp only [wnP, wnOut_len]
    omega
  · simp
end Go.Proofs.Ytilpnbejpndgpaa.X

/- WithoutNeedless of the reference. -/
set_option linter.unusedVariables false
set_option linter.unusedSimpArgs false
set_option maxRecDepth 20000
set_option maxHeartbeats 4000000
namespace Go.Proofs.Ytilpnbejpndgpaa.X
open Go Go.RowKit

theorem sl_len {n l : Nat} : lenV (sl n l) = some (I64 l) := rfl
theorem s_WithoutNeedless {v w : Value} {x : Prg} {h : AH} {Q : Value → AH → Prop} (hv : PrgR h v w x) (hl : SmallP x)
    (hQ : ∀ v' w' h', h <+: h' → InP h.length h'.length h' v' w' (wnR x).1 → Q (.tuple #[prgV (wnR x).1 v' w', I64 (wnR x).2]) h') : WF S 38 [prgV x v w] h Q := by
  refine WF_fn (fn := c38) rfl rfl ?_
  unfold c38
  ((try simp (maxSteps := 3000000) (dsimp := false) (disch := first | omega | (simp only [len_new, len_put, len_kill]; omega)) only [↓ypre, ypost, ↓reduceIte, Nat.reduceEqDiff, Nat.reduceAdd, Nat.reduceSub, Nat.reduceLeDiff, Nat.zero_add, Nat.sub_zero, ynew, prgV, hv.1.one, hv.2.one]); try simp only [yback])
  generalize hH1 : AH.new h _ = H1
  obtain ⟨hb1, p1, n1⟩ := new_facts hH1
  generalize hH2 : AH.new H1 _ = H2
  obtain ⟨hb2, p2, n2⟩ := new_facts hH2
  have hb1 := pre_get p2 hb1
  ((try simp (maxSteps := 3000000) (dsimp := false) (disch := first | omega | (simp only [len_new, len_put, len_kill]; omega)) only [↓ypre, ypost, ↓reduceIte, Nat.reduceEqDiff, Nat.reduceAdd, Nat.reduceSub, Nat.reduceLeDiff, Nat.zero_add, Nat.sub_zero, ynew, rdn_of hb1]); try simp only [yback])
  refine s_IsPrg (hv.pre (p1.trans p2)) hl fun H3 p3 => ?_
  have hb1 := pre_get p3 hb1
  have hb2 := pre_get p3 hb2
  have lt2 := get_lt hb2
  unfold wnR at hQ
  cases h1 : isPrg x with
  | false =>
    rw [h1, if_neg (by decide)] at hQ
    ((try simp (maxSteps := 3000000) (dsimp := false) (disch := first | omega | (simp only [len_new, len_put, len_kill]; omega)) only [↓ypre, ypost, ↓reduceIte, Nat.reduceEqDiff, Nat.reduceAdd, Nat.reduceSub, Nat.reduceLeDiff, Nat.zero_add, Nat.sub_zero, ynew, wr_of hb2]); try simp only [yback])
    exact hQ (.slice none 0 0) (.slice none 0 0) _ (pre_put ((p1.trans p2).trans p3) (by omega)) ⟨h.length, Nat.le_refl _, by rw [len_put]; omega, .inl ⟨rfl, rfl⟩, .inl ⟨rfl, rfl⟩⟩
  | true =>
    rw [h1, if_pos rfl] at hQ
    have pf := isPrg_facts h1
    have fp := pf.p
    have fn := pf.n
    have fst := pf.st
    have fout := pf.out
    have p13 := (p1.trans p2).trans p3
    have l13 := pre_len p3
    obtain ⟨N, hN⟩ : ∃ N : Nat, x.n = N := ⟨x.n.toNat, by omega⟩
    have hNt : x.n.toNat = N := by omega
    obtain ⟨C, hC⟩ : ∃ C : Nat, C = N + x.st.length := ⟨_, rfl⟩
    have eC : x.n + (x.st.length : Int) = (C : Int) := by omega
    have uol : ∀ i, (uO x i).length = C := fun i => by rw [uO_len, hNt, hC]
    have usl : ∀ i, (uS x i).length = C := fun i => by rw [uS_len, hNt, hC]
    ((try simp (maxSteps := 3000000) (dsimp := false) (disch := first | omega | (simp only [len_new, len_put, len_kill]; omega)) only [↓ypre, ypost, ↓reduceIte, Nat.reduceEqDiff, Nat.reduceAdd, Nat.reduceSub, Nat.reduceLeDiff, Nat.zero_add, Nat.sub_zero, ynew, rd1_of hb1, hv.1.len, eC, wrap64_in]); try simp only [yback])
    refine ⟨by omega, ?_⟩
    rw [Int.toNat_natCast, zrep_bools]
    generalize hH4 : AH.new H3 _ = H4
    obtain ⟨hb4, p4, n4⟩ := new_facts hH4
    have bu0 : Bls H4 H3.length (uO x 0) := by
      unfold uO
      rw [hNt, ← hC]
      exact hb4
    ((try simp (maxSteps := 3000000) (dsimp := false) (disch := first | omega | (simp only [len_new, len_put, len_kill]; omega)) only [↓ypre, ypost, ↓reduceIte, Nat.reduceEqDiff, Nat.reduceAdd, Nat.reduceSub, Nat.reduceLeDiff, Nat.zero_add, Nat.sub_zero, ynew]); try simp only [yback])
    refine WC_loop_inv (fun m f K1 => ∃ (i : Nat), m = x.out.length - i ∧ i ≤ x.out.length ∧ f 1 = .pointer (some ⟨h.length, 0, none⟩) ∧ f 2 = .pointer (some ⟨H1.length, 0, none⟩) ∧ f 4 = I64 C ∧ f 5 = sl H3.length C ∧ f 6 = I64 i ∧ (H3 <+: K1) ∧ (Bls K1 H3.length (uO x i))) ?_ (x.out.length - 0) _ _ ⟨0, rfl, by omega, (by first | rfl | (simp [upd_apply]; done)), (by first | rfl | (simp [upd_apply]; done)), (by first | rfl | (simp [upd_apply]; done)), (by first | rfl | (simp [upd_apply]; done)), (by first | rfl | (simp [upd_apply]; done)), p4, bu0⟩
    rintro m f K1 ⟨i, rfl, hi, f1, f2, f4, f5, f6, pp, bu⟩
    have hbK := pre_get pp hb1
    have ltK := get_lt hbK
    have hvK := hv.pre (p13.trans pp)
    by_cases hlt : (i : Int) < x.out.length
    · have hi' : i < x.out.length := by omega
      obtain ⟨n', off', hix', hrn', hr1⟩ := hvK.2.at hi'
      obtain ⟨a, b, hq⟩ := all2 (hvK.2.wid hi')
      have r0 := hr1 0 (by omega)
      have r1 := hr1 1 (by omega)
      rw [hq] at r0 r1
      simp only [Nat.add_zero, List.getD_cons_zero, List.getD_cons_succ] at r0 r1
      have s2 := pf.out2 hi' hq
      have en : nOut x i = a.toNat := by unfold nOut nq; rw [hq]; rfl
      have e1 : (x.out.getD i []).getD 1 0 = b := by rw [hq]; rfl
      by_cases hb0 : b = 0
      · ((try simp (maxSteps := 3000000) (dsimp := false) (disch := first | omega | (simp only [len_new, len_put, len_kill]; omega)) only [↓ypre, ypost, ↓reduceIte, Nat.reduceEqDiff, Nat.reduceAdd, Nat.reduceSub, Nat.reduceLeDiff, Nat.zero_add, Nat.sub_zero, ynew, f1, f2, f4, f5, f6, Nat.add_zero, rd1_of hbK, hvK.2.len, decide_eq_true hlt, hix', r0, r1, decide_eq_false (show ¬ b ≠ 0 from fun y => y hb0), wrap64_in]); try simp only [yback])
        refine InvQ_go (x.out.length - (i + 1)) (by omega) ⟨(i + 1), rfl, by omega, (by first | rfl | exact f1 | (simp only [upd_apply]; rfl) | (show I64 _ = _; congr 1; omega)), (by first | rfl | exact f2 | (simp only [upd_apply]; rfl) | (show I64 _ = _; congr 1; omega)), (by first | rfl | exact f4 | (simp only [upd_apply]; rfl) | (show I64 _ = _; congr 1; omega)), (by first | rfl | exact f5 | (simp only [upd_apply]; rfl) | (show I64 _ = _; congr 1; omega)), (by first | rfl | exact f6 | (simp only [upd_apply]; rfl) | (show I64 _ = _; congr 1; omega)), pp, (by unfold uO; rw [if_pos (by rw [e1]; exact hb0)]; exact bu)⟩
      · have ixa := Lst.ix (n := H3.length) (j := a) (len := C) (by omega)
        obtain ⟨H5, w5, e5, b5⟩ := bu.wr (j := a.toNat) (x := true) (by rw [uol]; omega)
        ((try simp (maxSteps := 3000000) (dsimp := false) (disch := first | omega | (simp only [len_new, len_put, len_kill]; omega)) only [↓ypre, ypost, ↓reduceIte, Nat.reduceEqDiff, Nat.reduceAdd, Nat.reduceSub, Nat.reduceLeDiff, Nat.zero_add, Nat.sub_zero, ynew, f1, f2, f4, f5, f6, Nat.add_zero, rd1_of hbK, hvK.2.len, decide_eq_true hlt, hix', r0, r1, decide_eq_true (show b ≠ 0 from hb0), ixa, w5, wrap64_in]); try simp only [yback])
        refine InvQ_go (x.out.length - (i + 1)) (by omega) ⟨(i + 1), rfl, by omega, (by first | rfl | exact f1 | (simp only [upd_apply]; rfl) | (show I64 _ = _; congr 1; omega)), (by first | rfl | exact f2 | (simp only [upd_apply]; rfl) | (show I64 _ = _; congr 1; omega)), (by first | rfl | exact f4 | (simp only [upd_apply]; rfl) | (show I64 _ = _; congr 1; omega)), (by first | rfl | exact f5 | (simp only [upd_apply]; rfl) | (show I64 _ = _; congr 1; omega)), (by first | rfl | exact f6 | (simp only [upd_apply]; rfl) | (show I64 _ = _; congr 1; omega)), (by rw [e5]; exact pre_put pp (Nat.le_refl _)), (by unfold uO; rw [if_neg (by rw [e1]; exact hb0), en]; exact b5)⟩
    have ei : i = x.out.length := by omega
    subst ei
    ((try simp (maxSteps := 3000000) (dsimp := false) (disch := first | omega | (simp only [len_new, len_put, len_kill]; omega)) only [↓ypre, ypost, ↓reduceIte, Nat.reduceEqDiff, Nat.reduceAdd, Nat.reduceSub, Nat.reduceLeDiff, Nat.zero_add, Nat.sub_zero, ynew, f1, f2, f4, f5, f6, rd1_of hbK, hvK.2.len, hvK.1.len, decide_eq_false hlt, wrap64_in]); try simp only [yback])
    refine WC_loop_inv (fun m f K2 => ∃ (z : Nat), m = x.st.length - z ∧ z ≤ x.st.length ∧ f 1 = .pointer (some ⟨h.length, 0, none⟩) ∧ f 2 = .pointer (some ⟨H1.length, 0, none⟩) ∧ f 4 = I64 C ∧ f 5 = sl H3.length C ∧ f 7 = I64 ((x.st.length : Int) - 1 - (z : Int)) ∧ (H3 <+: K2) ∧ (Bls K2 H3.length (uS x z))) ?_ (x.st.length - 0) _ _ ⟨0, rfl, by omega, (by first | rfl | exact f1 | (simp [upd_apply]; done)), (by first | rfl | exact f2 | (simp [upd_apply]; done)), (by first | rfl | exact f4 | (simp [upd_apply]; done)), (by first | rfl | exact f5 | (simp [upd_apply]; done)), (by first | rfl | (simp [upd_apply]; done)), pp, bu⟩
    rintro m f K2 ⟨z, rfl, hz, f1, f2, f4, f5, f7, pp, bu⟩
    have hbK := pre_get pp hb1
    have ltK := get_lt hbK
    have hvK := hv.pre (p13.trans pp)
    by_cases hlt : 0 ≤ (x.st.length : Int) - 1 - (z : Int)
    · obtain ⟨i, hi⟩ : ∃ i : Nat, i = x.st.length - 1 - z := ⟨_, rfl⟩
      have hi' : i < x.st.length := by omega
      have ei : (x.st.length : Int) - 1 - (z : Int) = (i : Int) := by omega
      obtain ⟨n', off', hix', hrn', hr1⟩ := hvK.1.at hi'
      obtain ⟨a, b, d, hq⟩ := all3 (hvK.1.wid hi')
      have r0 := hr1 0 (by omega)
      have r1 := hr1 1 (by omega)
      rw [hq] at r0 r1
      simp only [Nat.add_zero, List.getD_cons_zero, List.getD_cons_succ] at r0 r1
      have s3 := pf.st3 hi' hq
      have ea : nSt x i 0 = a.toNat := by unfold nSt nq; rw [hq]; rfl
      have eb : nSt x i 1 = b.toNat := by unfold nSt nq; rw [hq]; rfl
      have eni : x.n + (i : Int) = ((N + i : Nat) : Int) := by omega
      have ixu := Lst.ix (n := H3.length) (j := ((N + i : Nat) : Int)) (len := C) (by omega)
      have ixa := Lst.ix (n := H3.length) (j := a) (len := C) (by omega)
      have ixb := Lst.ix (n := H3.length) (j := b) (len := C) (by omega)
      rw [Int.toNat_natCast] at ixu
      have ru := bu.rd (j := N + i) (by rw [usl]; omega)
      have eu : uS x (z + 1) = if (uS x z).getD (N + i) false = true then ((uS x z).set a.toNat true).set b.toNat true else uS x z := by
        show (if (uS x z).getD (x.n.toNat + (x.st.length - 1 - z)) false = true then ((uS x z).set (nSt x (x.st.length - 1 - z) 0) true).set (nSt x (x.st.length - 1 - z) 1) true else uS x z) = _
        rw [← hi, hNt, ea, eb]
      cases hU : (uS x z).getD (N + i) false with
      | false =>
        rw [hU] at ru eu
        rw [if_neg (by decide)] at eu
        ((try simp (maxSteps := 3000000) (dsimp := false) (disch := first | omega | (simp only [len_new, len_put, len_kill]; omega)) only [↓ypre, ypost, ↓reduceIte, Nat.reduceEqDiff, Nat.reduceAdd, Nat.reduceSub, Nat.reduceLeDiff, Nat.zero_add, Nat.sub_zero, ynew, f1, f2, f4, f5, f7, Nat.add_zero, rd1_of hbK, decide_eq_true (show (0 : Int) ≤ (i : Int) by omega), ei, eni, ixu, ru, wrap64_in]); try simp only [yback])
        refine InvQ_go (x.st.length - (z + 1)) (by omega) ⟨(z + 1), rfl, by omega, (by first | rfl | exact f1 | (simp only [upd_apply]; rfl) | (show I64 _ = _; congr 1; omega)), (by first | rfl | exact f2 | (simp only [upd_apply]; rfl) | (show I64 _ = _; congr 1; omega)), (by first | rfl | exact f4 | (simp only [upd_apply]; rfl) | (show I64 _ = _; congr 1; omega)), (by first | rfl | exact f5 | (simp only [upd_apply]; rfl) | (show I64 _ = _; congr 1; omega)), (by show I64 _ = I64 _; congr 1; omega), pp, (by rw [eu]; exact bu)⟩
      | true =>
        rw [hU] at ru eu
        rw [if_pos rfl] at eu
        obtain ⟨H5, w5, e5, b5⟩ := bu.wr (j := a.toNat) (x := true) (by rw [usl]; omega)
        obtain ⟨H6, w6, e6, b6⟩ := b5.wr (j := b.toNat) (x := true) (by rw [List.length_set, usl]; omega)
        have q5 : H3 <+: H5 := by rw [e5]; exact pre_put pp (Nat.le_refl _)
        have q6 : H3 <+: H6 := by rw [e6]; exact pre_put q5 (Nat.le_refl _)
        obtain ⟨m5, o5, hix5, hrn5, hr5⟩ := (hv.pre (p13.trans q5)).1.at hi'
        have ha := hix' .i64
        rw [hix5 .i64] at ha
        simp only [Option.some.injEq, Value.pointer.injEq, Addr.mk.injEq, and_true] at ha
        obtain ⟨rfl, rfl⟩ := ha
        have r15 := hr5 1 (by omega)
        rw [hq] at r15
        simp only [List.getD_cons_zero, List.getD_cons_succ] at r15
        ((try simp (maxSteps := 3000000) (dsimp := false) (disch := first | omega | (simp only [len_new, len_put, len_kill]; omega)) only [↓ypre, ypost, ↓reduceIte, Nat.reduceEqDiff, Nat.reduceAdd, Nat.reduceSub, Nat.reduceLeDiff, Nat.zero_add, Nat.sub_zero, ynew, f1, f2, f4, f5, f7, Nat.add_zero, rd1_of hbK, decide_eq_true (show (0 : Int) ≤ (i : Int) by omega), ei, eni, ixu, ru, hix', r0, ixa, w5, rd1_of (pre_get q5 hb1), r15, ixb, w6, wrap64_in]); try simp only [yback])
        refine InvQ_go (x.st.length - (z + 1)) (by omega) ⟨(z + 1), rfl, by omega, (by first | rfl | exact f1 | (simp only [upd_apply]; rfl) | (show I64 _ = _; congr 1; omega)), (by first | rfl | exact f2 | (simp only [upd_apply]; rfl) | (show I64 _ = _; congr 1; omega)), (by first | rfl | exact f4 | (simp only [upd_apply]; rfl) | (show I64 _ = _; congr 1; omega)), (by first | rfl | exact f5 | (simp only [upd_apply]; rfl) | (show I64 _ = _; congr 1; omega)), (by show I64 _ = I64 _; congr 1; omega), q6, (by rw [eu]; exact b6)⟩
    have ez : z = x.st.length := by omega
    subst ez
    ((try simp (maxSteps := 3000000) (dsimp := false) (disch := first | omega | (simp only [len_new, len_put, len_kill]; omega)) only [↓ypre, ypost, ↓reduceIte, Nat.reduceEqDiff, Nat.reduceAdd, Nat.reduceSub, Nat.reduceLeDiff, Nat.zero_add, Nat.sub_zero, ynew, f1, f2, f4, f5, f7, decide_eq_false hlt]); try simp only [yback])
    refine ⟨by omega, ?_⟩
    rw [Int.toNat_natCast, zrep_ints]
    generalize hH7 : AH.new K2 _ = H7
    obtain ⟨hb7, p7, n7⟩ := new_facts hH7
    have pp := pp.trans p7
    have ln0 : Lst H7 K2.length (nmS x 0) true := by
      rw [nmS_zero, hNt, ← hC]
      exact hb7
    have bu := bu.pre p7
    have hk2 := pre_len pp
    have hK2 : H3.length < K2.length := by have := (show Bls K2 H3.length _ from by assumption).lt; omega
    ((try simp (maxSteps := 3000000) (dsimp := false) (disch := first | omega | (simp only [len_new, len_put, len_kill]; omega)) only [↓ypre, ypost, ↓reduceIte, Nat.reduceEqDiff, Nat.reduceAdd, Nat.reduceSub, Nat.reduceLeDiff, Nat.zero_add, Nat.sub_zero, ynew, f1, f2, f4, f5, f7]); try simp only [yback])
    refine WC_loop_inv (fun m f K3 => ∃ (i : Nat), m = C - i ∧ i ≤ C ∧ f 1 = .pointer (some ⟨h.length, 0, none⟩) ∧ f 2 = .pointer (some ⟨H1.length, 0, none⟩) ∧ f 4 = I64 C ∧ f 5 = sl H3.length C ∧ f 8 = sl K2.length C ∧ f 9 = I64 (rk x i) ∧ f 10 = I64 i ∧ (H3 <+: K3) ∧ (Bls K3 H3.length (uS x x.st.length)) ∧ (Lst K3 K2.length (nmS x i) true)) ?_ (C - 0) _ _ ⟨0, rfl, by omega, (by first | rfl | exact f1 | (simp [upd_apply]; done)), (by first | rfl | exact f2 | (simp [upd_apply]; done)), (by first | rfl | exact f4 | (simp [upd_apply]; done)), (by first | rfl | exact f5 | (simp [upd_apply]; done)), (by first | rfl | (simp [upd_apply]; done)), (by first | rfl | (simp [upd_apply]; done)), (by first | rfl | (simp [upd_apply]; done)), pp, bu, ln0⟩
    rintro m f K3 ⟨i, rfl, hi, f1, f2, f4, f5, f8, f9, f10, pp, bu, ln⟩
    have hbK := pre_get pp hb1
    have ltK := get_lt hbK
    have ri := rk_in (x := x) (j := i)
    by_cases hlt : (i : Int) < C
    · have hi' : i < C := by omega
      have ixu := Lst.ix (n := H3.length) (j := (i : Int)) (len := C) (by omega)
      have ixn := Lst.ix (n := K2.length) (j := (i : Int)) (len := C) (by omega)
      rw [Int.toNat_natCast] at ixu ixn
      have ru := bu.rd (j := i) (by rw [usl]; exact hi')
      have nl : (nmS x i).length = C := by rw [nmS_len, hNt, hC]
      obtain ⟨H5, w5, e5, l5⟩ := ln.wr (j := i) (x := rk x i) (by rw [nl]; exact hi')
      have q5 : H3 <+: H5 := by rw [e5]; exact pre_put pp (by omega)
      have b5 : Bls H5 H3.length (uS x x.st.length) := by rw [e5]; exact bu.put_ne (by omega)
      have yes : kp x i = true → rk x i + 1 = rk x (i + 1) ∧ Lst H5 K2.length (nmS x (i + 1)) true := fun hk => ⟨by show _ = rk x i + _; rw [if_pos hk], by rw [← nmS_set (by rw [hNt, ← hC]; exact hi') hk]; exact l5⟩
      by_cases c1 : (i : Int) < x.n
      · have hk : kp x i = true := by unfold kp; rw [decide_eq_true (by omega)]; rfl
        obtain ⟨y1, y2⟩ := yes hk
        ((try simp (maxSteps := 3000000) (dsimp := false) (disch := first | omega | (simp only [len_new, len_put, len_kill]; omega)) only [↓ypre, ypost, ↓reduceIte, Nat.reduceEqDiff, Nat.reduceAdd, Nat.reduceSub, Nat.reduceLeDiff, Nat.zero_add, Nat.sub_zero, ynew, f1, f2, f4, f5, f8, f9, f10, rd1_of hbK, decide_eq_true hlt, decide_eq_true c1, ixn, w5, y1, wrap64_in]); try simp only [yback])
        refine InvQ_go (C - (i + 1)) (by omega) ⟨(i + 1), rfl, by omega, (by first | rfl | exact f1 | (simp only [upd_apply]; rfl) | (show I64 _ = _; congr 1; omega)), (by first | rfl | exact f2 | (simp only [upd_apply]; rfl) | (show I64 _ = _; congr 1; omega)), (by first | rfl | exact f4 | (simp only [upd_apply]; rfl) | (show I64 _ = _; congr 1; omega)), (by first | rfl | exact f5 | (simp only [upd_apply]; rfl) | (show I64 _ = _; congr 1; omega)), (by first | rfl | exact f8 | (simp only [upd_apply]; rfl) | (show I64 _ = _; congr 1; omega)), (by first | rfl | exact f9 | (simp only [upd_apply]; rfl) | (show I64 _ = _; congr 1; omega)), (by first | rfl | exact f10 | (simp only [upd_apply]; rfl) | (show I64 _ = _; congr 1; omega)), q5, b5, y2⟩
      · cases hU : (uS x x.st.length).getD i false with
        | true =>
          obtain ⟨y1, y2⟩ := yes (kp_of hU)
          rw [hU] at ru
          ((try simp (maxSteps := 3000000) (dsimp := false) (disch := first | omega | (simp only [len_new, len_put, len_kill]; omega)) only [↓ypre, ypost, ↓reduceIte, Nat.reduceEqDiff, Nat.reduceAdd, Nat.reduceSub, Nat.reduceLeDiff, Nat.zero_add, Nat.sub_zero, ynew, f1, f2, f4, f5, f8, f9, f10, rd1_of hbK, decide_eq_true hlt, decide_eq_false c1, ixu, ru, ixn, w5, y1, wrap64_in]); try simp only [yback])
          refine InvQ_go (C - (i + 1)) (by omega) ⟨(i + 1), rfl, by omega, (by first | rfl | exact f1 | (simp only [upd_apply]; rfl) | (show I64 _ = _; congr 1; omega)), (by first | rfl | exact f2 | (simp only [upd_apply]; rfl) | (show I64 _ = _; congr 1; omega)), (by first | rfl | exact f4 | (simp only [upd_apply]; rfl) | (show I64 _ = _; congr 1; omega)), (by first | rfl | exact f5 | (simp only [upd_apply]; rfl) | (show I64 _ = _; congr 1; omega)), (by first | rfl | exact f8 | (simp only [upd_apply]; rfl) | (show I64 _ = _; congr 1; omega)), (by first | rfl | exact f9 | (simp only [upd_apply]; rfl) | (show I64 _ = _; congr 1; omega)), (by first | rfl | exact f10 | (simp only [upd_apply]; rfl) | (show I64 _ = _; congr 1; omega)), q5, b5, y2⟩
        | false =>
          have hk : ¬ kp x i = true := by unfold kp; rw [hU, decide_eq_false (by omega)]; decide
          rw [hU] at ru
          have y1 : rk x (i + 1) = rk x i := by show rk x i + _ = _; rw [if_neg hk, Int.add_zero]
          ((try simp (maxSteps := 3000000) (dsimp := false) (disch := first | omega | (simp only [len_new, len_put, len_kill]; omega)) only [↓ypre, ypost, ↓reduceIte, Nat.reduceEqDiff, Nat.reduceAdd, Nat.reduceSub, Nat.reduceLeDiff, Nat.zero_add, Nat.sub_zero, ynew, f1, f2, f4, f5, f8, f9, f10, rd1_of hbK, decide_eq_true hlt, decide_eq_false c1, ixu, ru, wrap64_in]); try simp only [yback])
          refine InvQ_go (C - (i + 1)) (by omega) ⟨(i + 1), rfl, by omega, (by first | rfl | exact f1 | (simp only [upd_apply]; rfl) | (show I64 _ = _; congr 1; omega)), (by first | rfl | exact f2 | (simp only [upd_apply]; rfl) | (show I64 _ = _; congr 1; omega)), (by first | rfl | exact f4 | (simp only [upd_apply]; rfl) | (show I64 _ = _; congr 1; omega)), (by first | rfl | exact f5 | (simp only [upd_apply]; rfl) | (show I64 _ = _; congr 1; omega)), (by first | rfl | exact f8 | (simp only [upd_apply]; rfl) | (show I64 _ = _; congr 1; omega)), (by rw [y1]; exact f9), (by first | rfl | exact f10 | (simp only [upd_apply]; rfl) | (show I64 _ = _; congr 1; omega)), pp, bu, (by rw [← nmS_skip hk]; exact ln)⟩
    have ei : i = C := by omega
    subst ei
    have hb2K := pre_get pp hb2
    have kn : Lst K3 K2.length (nmS x (x.n.toNat + x.st.length)) true := by rw [hNt, ← hC]; exact ln
    have nl : (nmS x (x.n.toNat + x.st.length)).length = i := by rw [nmS_len, hNt, hC]
    have nat_ : ∀ j, j < i → kp x j = true → (nmS x (x.n.toNat + x.st.length)).getD j 0 = rk x j := fun j hj hk => nmS_at (by rw [hNt, ← hC]; exact hj) hk
    generalize nmS x (x.n.toNat + x.st.length) = NM at *
    have k3 := pre_len pp
    have lt4 := kn.lt
    ((try simp (maxSteps := 3000000) (dsimp := false) (disch := first | omega | (simp only [len_new, len_put, len_kill]; omega)) only [↓ypre, ypost, ↓reduceIte, Nat.reduceEqDiff, Nat.reduceAdd, Nat.reduceSub, Nat.reduceLeDiff, Nat.zero_add, Nat.sub_zero, ynew, f1, f2, f4, f5, f8, f9, f10, rd1_of hbK, decide_eq_false hlt]); try simp only [yback])
    generalize hH8 : AH.new K3 _ = H8
    obtain ⟨hb8, p8, n8⟩ := new_facts hH8
    generalize hH9 : AH.new H8 _ = H9
    obtain ⟨hb9, p9, n9⟩ := new_facts hH9
    generalize hHA : AH.new H9 _ = HA
    obtain ⟨hbA, pA, nA⟩ := new_facts hHA
    have p8A := (p8.trans p9).trans pA
    have ws0 : WayX (96) .i64 3 HA K3.length [H8.length, H9.length] (.slice (some ⟨K3.length, 0, none⟩) 0 3) (wnSt x 0) := ⟨fun r hr => by simp [wnSt] at hr, .inr ⟨K3.length, true, rfl, Nat.le_refl _, by simp; omega, pre_get (p9.trans pA) hb8⟩⟩
    refine WC_loop_inv (fun m f K4 => ∃ (y : Nat) (sv : Value), m = x.st.length - y ∧ y ≤ x.st.length ∧ f 1 = .pointer (some ⟨h.length, 0, none⟩) ∧ f 2 = .pointer (some ⟨H1.length, 0, none⟩) ∧ f 5 = sl H3.length i ∧ f 8 = sl K2.length i ∧ f 11 = .pointer (some ⟨H9.length, 0, none⟩) ∧ f 12 = I64 y ∧ (K3 <+: K4) ∧ (WayX (96) .i64 3 K4 K3.length [H8.length, H9.length] sv (wnSt x y)) ∧ (OwnB K4 H9.length [I64 x.p, I64 x.n, sv, .slice (some ⟨H8.length, 0, none⟩) 0 2] true) ∧ (K4.get H8.length = some ⟨[], 98, false, true⟩)) ?_ (x.st.length - 0) _ _ ⟨0, .slice (some ⟨K3.length, 0, none⟩) 0 3, rfl, by omega, (by first | rfl | exact f1 | (simp [upd_apply]; done)), (by first | rfl | exact f2 | (simp [upd_apply]; done)), (by first | rfl | exact f5 | (simp [upd_apply]; done)), (by first | rfl | exact f8 | (simp [upd_apply]; done)), (by first | rfl | (simp [upd_apply]; done)), (by first | rfl | (simp [upd_apply]; done)), p8A, ws0, ⟨_, hbA⟩, pre_get pA hb9⟩
    rintro m f K4 ⟨y, sv, rfl, hy, f1, f2, f5, f8, f11, f12, pp, wb, g9, g8⟩
    have k4 := pre_len pp
    have hbK := pre_get pp hbK
    have ltK := get_lt hbK
    have bu4 := bu.pre pp
    have kn4 := kn.pre pp
    have hvK := hv.pre (p13.trans ((show H3 <+: K3 from by assumption).trans pp))
    obtain ⟨e9, g9⟩ := g9
    have lt9 := get_lt g9
    have lt8 := get_lt g8
    have wle := wnSt_le (x := x) (i := y)
    by_cases hlt : (y : Int) < x.st.length
    · have hy : y < x.st.length := by omega
      obtain ⟨n', off', hix', hrn'⟩ := hvK.1.rdw hy
      obtain ⟨a, b, d, hq⟩ := all3 (hvK.1.wid hy)
      rw [hq, cel_3] at hrn'
      have s3 := pf.st3 hy hq
      have ea : nSt x y 0 = a.toNat := by unfold nSt nq; rw [hq]; rfl
      have eb : nSt x y 1 = b.toNat := by unfold nSt nq; rw [hq]; rfl
      have eny : x.n + (y : Int) = ((N + y : Nat) : Int) := by omega
      have ixu := Lst.ix (n := H3.length) (j := ((N + y : Nat) : Int)) (len := i) (by omega)
      rw [Int.toNat_natCast] at ixu
      have ru := bu4.rd (j := N + y) (by rw [usl]; omega)
      have eu : wnSt x (y + 1) = if (uS x x.st.length).getD (N + y) false = true then wnSt x y ++ [[rk x a.toNat, rk x b.toNat, d]] else wnSt x y := by
        show (if (uS x x.st.length).getD (x.n.toNat + y) false = true then wnSt x y ++ [[rk x (nSt x y 0), rk x (nSt x y 1), (x.st.getD y []).getD 2 0]] else wnSt x y) = _
        rw [hNt, ea, eb, hq]
        rfl
      cases hU : (uS x x.st.length).getD (N + y) false with
      | false =>
        rw [hU] at ru eu
        rw [if_neg (by decide)] at eu
        ((try simp (maxSteps := 3000000) (dsimp := false) (disch := first | omega | (simp only [len_new, len_put, len_kill]; omega)) only [↓ypre, ypost, ↓reduceIte, Nat.reduceEqDiff, Nat.reduceAdd, Nat.reduceSub, Nat.reduceLeDiff, Nat.zero_add, Nat.sub_zero, ynew, f1, f2, f5, f8, f11, f12, rd1_of hbK, hvK.1.len, decide_eq_true hlt, hix', hrn', eny, ixu, ru, wrap64_in]); try simp only [yback])
        refine InvQ_go (x.st.length - (y + 1)) (by omega) ⟨(y + 1), sv, rfl, by omega, (by first | rfl | exact f1 | (simp only [upd_apply]; rfl) | (show I64 _ = _; congr 1; omega)), (by first | rfl | exact f2 | (simp only [upd_apply]; rfl) | (show I64 _ = _; congr 1; omega)), (by first | rfl | exact f5 | (simp only [upd_apply]; rfl) | (show I64 _ = _; congr 1; omega)), (by first | rfl | exact f8 | (simp only [upd_apply]; rfl) | (show I64 _ = _; congr 1; omega)), (by first | rfl | exact f11 | (simp only [upd_apply]; rfl) | (show I64 _ = _; congr 1; omega)), (by first | rfl | exact f12 | (simp only [upd_apply]; rfl) | (show I64 _ = _; congr 1; omega)), (pp.trans (pre_new (List.prefix_refl _))), (by rw [eu]; exact wb.pre (pre_new (List.prefix_refl _))), ⟨e9, get_new_any g9⟩, (get_new_any g8)⟩
      | true =>
        have cl := uS_closed hvK pf (Nat.le_refl _) y (by omega) hy (by rw [hNt]; exact hU)
        rw [ea, eb] at cl
        rw [hU] at ru eu
        rw [if_pos rfl] at eu
        have ixa := Lst.ix (n := K2.length) (j := a) (len := i) (by omega)
        have ixb := Lst.ix (n := K2.length) (j := b) (len := i) (by omega)
        have ra := kn4.rd (j := a.toNat) (by omega)
        have rb := kn4.rd (j := b.toNat) (by omega)
        rw [nat_ _ (by omega) (kp_of cl.1)] at ra
        rw [nat_ _ (by omega) (kp_of cl.2)] at rb
        ((try simp (maxSteps := 3000000) (dsimp := false) (disch := first | omega | (simp only [len_new, len_put, len_kill]; omega)) only [↓ypre, ypost, ↓reduceIte, Nat.reduceEqDiff, Nat.reduceAdd, Nat.reduceSub, Nat.reduceLeDiff, Nat.zero_add, Nat.sub_zero, ynew, f1, f2, f5, f8, f11, f12, rd1_of hbK, hvK.1.len, decide_eq_true hlt, hix', hrn', eny, ixu, ru, rd1_of g9, ixa, ra, ixb, rb, wrap64_in]); try simp only [yback])
        generalize hHB : AH.new K4 _ = HB
        obtain ⟨hbB, pB, nB⟩ := new_facts hHB
        refine (wb.pre pB).app (q := [rk x a.toNat, rk x b.toNat, d]) rfl (by omega) (by omega) (by omega) (by simp; omega) fun sv' H' l' pre' keep' wb' => ?_
        have g9' := keep' _ _ (.inr (by simp)) (pre_get pB g9)
        have g8' := keep' _ _ (.inr (by simp)) (pre_get pB g8)
        have lt9' := get_lt g9'
        ((try simp (maxSteps := 3000000) (dsimp := false) (disch := first | omega | (simp only [len_new, len_put, len_kill]; omega)) only [↓ypre, ypost, ↓reduceIte, Nat.reduceEqDiff, Nat.reduceAdd, Nat.reduceSub, Nat.reduceLeDiff, Nat.zero_add, Nat.sub_zero, ynew, f1, f2, f5, f8, f11, f12, wb'.one, wb'.cells, wr_of g9', wrap64_in]); try simp only [yback])
        refine InvQ_go (x.st.length - (y + 1)) (by omega) ⟨(y + 1), sv', rfl, by omega, (by first | rfl | exact f1 | (simp only [upd_apply]; rfl) | (show I64 _ = _; congr 1; omega)), (by first | rfl | exact f2 | (simp only [upd_apply]; rfl) | (show I64 _ = _; congr 1; omega)), (by first | rfl | exact f5 | (simp only [upd_apply]; rfl) | (show I64 _ = _; congr 1; omega)), (by first | rfl | exact f8 | (simp only [upd_apply]; rfl) | (show I64 _ = _; congr 1; omega)), (by first | rfl | exact f11 | (simp only [upd_apply]; rfl) | (show I64 _ = _; congr 1; omega)), (by first | rfl | exact f12 | (simp only [upd_apply]; rfl) | (show I64 _ = _; congr 1; omega)), (pre_put (pre' _ (Nat.le_refl _) (pp.trans pB)) (by omega)), (by rw [eu]; exact (wb'.put (.inr (by simp))).mlo (by have := pre_len pB; omega)), ⟨e9, get_put_same lt9'⟩, (by rw [get_put_ne (by omega)]; exact g8')⟩
    have ey : y = x.st.length := by omega
    subst ey
    ((try simp (maxSteps := 3000000) (dsimp := false) (disch := first | omega | (simp only [len_new, len_put, len_kill]; omega)) only [↓ypre, ypost, ↓reduceIte, Nat.reduceEqDiff, Nat.reduceAdd, Nat.reduceSub, Nat.reduceLeDiff, Nat.zero_add, Nat.sub_zero, ynew, f1, f2, f5, f8, f11, f12, rd1_of hbK, hvK.1.len, decide_eq_false hlt]); try simp only [yback])
    obtain ⟨E, hE, hold⟩ := wb.hold
    have wo0 : WayX (98) .i64 2 K4 K3.length (H9.length :: E) (.slice (some ⟨H8.length, 0, none⟩) 0 2) (wnOut x 0) := ⟨fun r hr => by simp [wnOut] at hr, .inr ⟨H8.length, true, rfl, by omega, fun hm => by
      rcases List.mem_cons.1 hm with hm | hm
      · omega
      · exact (hE _ hm).2.2 (by simp), g8⟩⟩
    refine WC_loop_inv (fun m f K5 => ∃ (j : Nat) (so : Value) (lo : Nat), m = x.out.length - j ∧ j ≤ x.out.length ∧ f 1 = .pointer (some ⟨h.length, 0, none⟩) ∧ f 2 = .pointer (some ⟨H1.length, 0, none⟩) ∧ f 8 = sl K2.length i ∧ f 11 = .pointer (some ⟨H9.length, 0, none⟩) ∧ f 14 = I64 j ∧ (K3.length ≤ lo ∧ (0 < j → K4.length ≤ lo) ∧ K4.length ≤ K5.length ∧ lo ≤ K5.length) ∧ (K3 <+: K5) ∧ (WayX (98) .i64 2 K5 lo (H9.length :: E) so (wnOut x j)) ∧ (OwnB K5 H9.length [I64 x.p, I64 x.n, sv, so] true) ∧ (∀ m b, m ∈ E → K4.get m = some b → K5.get m = some b)) ?_ (x.out.length - 0) _ _ ⟨0, .slice (some ⟨H8.length, 0, none⟩) 0 2, K3.length, rfl, by omega, (by first | rfl | exact f1 | (simp [upd_apply]; done)), (by first | rfl | exact f2 | (simp [upd_apply]; done)), (by first | rfl | exact f8 | (simp [upd_apply]; done)), (by first | rfl | exact f11 | (simp [upd_apply]; done)), (by first | rfl | (simp [upd_apply]; done)), ⟨Nat.le_refl _, by omega, Nat.le_refl _, by omega⟩, pp, wo0, ⟨_, g9⟩, fun m b _ q => q⟩
    rintro m f K5 ⟨j, so, lo, rfl, hj, f1, f2, f8, f11, f14, ll, pp, wo, g9, hk⟩
    have k5 := pre_len pp
    have hbK := pre_get pp (show K3.get h.length = _ from by assumption)
    have ltK := get_lt hbK
    have kn5 := (show Lst K3 K2.length NM true from by assumption).pre pp
    have hvK := hv.pre (p13.trans ((show H3 <+: K3 from by assumption).trans pp))
    obtain ⟨e9, g9⟩ := g9
    have lt9 := get_lt g9
    have wle := wnOut_len (x := x) (i := j)
    by_cases hlt : (j : Int) < x.out.length
    · have hj : j < x.out.length := by omega
      obtain ⟨n', off', hix', hrn'⟩ := hvK.2.rdw hj
      obtain ⟨a, b, hq⟩ := all2 (hvK.2.wid hj)
      rw [hq, cel_2] at hrn'
      have s2 := pf.out2 hj hq
      have en : nOut x j = a.toNat := by unfold nOut nq; rw [hq]; rfl
      have e1 : (x.out.getD j []).getD 1 0 = b := by rw [hq]; rfl
      have eu : wnOut x (j + 1) = wnOut x j ++ [[rk x a.toNat, b]] := by
        show wnOut x j ++ [[rk x (nOut x j), (x.out.getD j []).getD 1 0]] = _
        rw [en, e1]
      by_cases hb0 : b = 0
      · subst hb0
        have ha : a = 0 := by omega
        subst ha
        rw [show rk x (0 : Int).toNat = 0 from rfl] at eu
        ((try simp (maxSteps := 3000000) (dsimp := false) (disch := first | omega | (simp only [len_new, len_put, len_kill]; omega)) only [↓ypre, ypost, ↓reduceIte, Nat.reduceEqDiff, Nat.reduceAdd, Nat.reduceSub, Nat.reduceLeDiff, Nat.zero_add, Nat.sub_zero, ynew, f1, f2, f8, f11, f14, rd1_of hbK, hvK.2.len, decide_eq_true hlt, hix', hrn', rd1_of g9, decide_eq_false (show ¬ (0 : Int) ≠ 0 from fun y => y rfl), wrap64_in]); try simp only [yback])
        generalize hHB : AH.new K5 _ = HB
        obtain ⟨hbB, pB, nB⟩ := new_facts hHB
        have kB := pre_len pB
        refine (wo.pre pB).app (q := [0, 0]) rfl (by omega) (by omega) (by omega) (fun r hr => by
          rcases List.mem_cons.1 hr with hr | hr
          · omega
          · have := (hE _ hr).2.1
            omega) fun so' H' l' pre' keep' wo' => ?_
        have g9' := keep' _ _ (.inr (by simp)) (pre_get pB g9)
        have lt9' := get_lt g9'
        have hk9 : ∀ m' b', m' ∈ E → K4.get m' = some b' → (H'.put H9.length ⟨[I64 x.p, I64 x.n, sv, so'], e9, false, true⟩).get m' = some b' := fun m' b' hr hc => by
          rw [get_put_ne (fun q => (hE _ hr).2.2 (by rw [← q]; simp))]
          exact keep' _ _ (.inr (List.mem_cons_of_mem _ hr)) (pre_get pB (hk _ _ hr hc))
        ((try simp (maxSteps := 3000000) (dsimp := false) (disch := first | omega | (simp only [len_new, len_put, len_kill]; omega)) only [↓ypre, ypost, ↓reduceIte, Nat.reduceEqDiff, Nat.reduceAdd, Nat.reduceSub, Nat.reduceLeDiff, Nat.zero_add, Nat.sub_zero, ynew, f1, f2, f8, f11, f14, wo'.one, wo'.cells, wr_of g9', wrap64_in]); try simp only [yback])
        refine InvQ_go (x.out.length - (j + 1)) (by omega) ⟨(j + 1), so', HB.length, rfl, by omega, (by first | rfl | exact f1 | (simp only [upd_apply]; rfl) | (show I64 _ = _; congr 1; omega)), (by first | rfl | exact f2 | (simp only [upd_apply]; rfl) | (show I64 _ = _; congr 1; omega)), (by first | rfl | exact f8 | (simp only [upd_apply]; rfl) | (show I64 _ = _; congr 1; omega)), (by first | rfl | exact f11 | (simp only [upd_apply]; rfl) | (show I64 _ = _; congr 1; omega)), (by first | rfl | exact f14 | (simp only [upd_apply]; rfl) | (show I64 _ = _; congr 1; omega)), ⟨by omega, by omega, by rw [len_put]; omega, by rw [len_put]; omega⟩, (pre_put (pre' _ ll.1 (pp.trans pB)) (by omega)), (by rw [eu]; exact wo'.put (.inr (by simp))), ⟨e9, get_put_same lt9'⟩, hk9⟩
      · have hu := uS_out hvK pf hj (by rw [e1]; exact hb0)
        rw [en] at hu
        have ixa := Lst.ix (n := K2.length) (j := a) (len := i) (by omega)
        have ra := kn5.rd (j := a.toNat) (by omega)
        rw [nat_ _ (by omega) (kp_of hu)] at ra
        ((try simp (maxSteps := 3000000) (dsimp := false) (disch := first | omega | (simp only [len_new, len_put, len_kill]; omega)) only [↓ypre, ypost, ↓reduceIte, Nat.reduceEqDiff, Nat.reduceAdd, Nat.reduceSub, Nat.reduceLeDiff, Nat.zero_add, Nat.sub_zero, ynew, f1, f2, f8, f11, f14, rd1_of hbK, hvK.2.len, decide_eq_true hlt, hix', hrn', decide_eq_true (show b ≠ 0 from hb0), ixa, ra, rd1_of g9, wrap64_in]); try simp only [yback])
        generalize hHB : AH.new K5 _ = HB
        obtain ⟨hbB, pB, nB⟩ := new_facts hHB
        have kB := pre_len pB
        refine (wo.pre pB).app (q := [rk x a.toNat, b]) rfl (by omega) (by omega) (by omega) (fun r hr => by
          rcases List.mem_cons.1 hr with hr | hr
          · omega
          · have := (hE _ hr).2.1
            omega) fun so' H' l' pre' keep' wo' => ?_
        have g9' := keep' _ _ (.inr (by simp)) (pre_get pB g9)
        have lt9' := get_lt g9'
        have hk9 : ∀ m' b', m' ∈ E → K4.get m' = some b' → (H'.put H9.length ⟨[I64 x.p, I64 x.n, sv, so'], e9, false, true⟩).get m' = some b' := fun m' b' hr hc => by
          rw [get_put_ne (fun q => (hE _ hr).2.2 (by rw [← q]; simp))]
          exact keep' _ _ (.inr (List.mem_cons_of_mem _ hr)) (pre_get pB (hk _ _ hr hc))
        ((try simp (maxSteps := 3000000) (dsimp := false) (disch := first | omega | (simp only [len_new, len_put, len_kill]; omega)) only [↓ypre, ypost, ↓reduceIte, Nat.reduceEqDiff, Nat.reduceAdd, Nat.reduceSub, Nat.reduceLeDiff, Nat.zero_add, Nat.sub_zero, ynew, f1, f2, f8, f11, f14, wo'.one, wo'.cells, wr_of g9', wrap64_in]); try simp only [yback])
        refine InvQ_go (x.out.length - (j + 1)) (by omega) ⟨(j + 1), so', HB.length, rfl, by omega, (by first | rfl | exact f1 | (simp only [upd_apply]; rfl) | (show I64 _ = _; congr 1; omega)), (by first | rfl | exact f2 | (simp only [upd_apply]; rfl) | (show I64 _ = _; congr 1; omega)), (by first | rfl | exact f8 | (simp only [upd_apply]; rfl) | (show I64 _ = _; congr 1; omega)), (by first | rfl | exact f11 | (simp only [upd_apply]; rfl) | (show I64 _ = _; congr 1; omega)), (by first | rfl | exact f14 | (simp only [upd_apply]; rfl) | (show I64 _ = _; congr 1; omega)), ⟨by omega, by omega, by rw [len_put]; omega, by rw [len_put]; omega⟩, (pre_put (pre' _ ll.1 (pp.trans pB)) (by omega)), (by rw [eu]; exact wo'.put (.inr (by simp))), ⟨e9, get_put_same lt9'⟩, hk9⟩
    have ej : j = x.out.length := by omega
    subst ej
    have hb2K := pre_get pp (show K3.get H1.length = _ from by assumption)
    ((try simp (maxSteps := 3000000) (dsimp := false) (disch := first | omega | (simp only [len_new, len_put, len_kill]; omega)) only [↓ypre, ypost, ↓reduceIte, Nat.reduceEqDiff, Nat.reduceAdd, Nat.reduceSub, Nat.reduceLeDiff, Nat.zero_add, Nat.sub_zero, ynew, f1, f2, f8, f11, f14, rd1_of hbK, hvK.2.len, decide_eq_false hlt, rdn_of g9, wr_of hb2K]); try simp only [yback])
    obtain ⟨ws, is⟩ := hold _ hk
    ((try simp (maxSteps := 3000000) (dsimp := false) (disch := first | omega | (simp only [len_new, len_put, len_kill]; omega)) only [↓ypre, ypost, ↓reduceIte, Nat.reduceEqDiff, Nat.reduceAdd, Nat.reduceSub, Nat.reduceLeDiff, Nat.zero_add, Nat.sub_zero, ynew, f1, f2, f8, f11, f14, ws.one, ws.cells, wo.one, wo.cells]); try simp only [yback])
    have lb2 := get_lt hb2K
    have k5 := pre_len pp
    have l13' := pre_len p13
    have k4 := pre_len (show K3 <+: K4 from by assumption)
    have hlo := ll.2.1 (by omega)
    exact hQ sv so _ (pre_put (p13.trans ((show H3 <+: K3 from by assumption).trans pp)) (by omega)) ⟨K4.length, by omega, by rw [len_put]; omega, (is.putb (by omega)).mono (by omega) (Nat.le_refl _), (wo.put (.inl (by omega))).inE.mono hlo (Nat.le_refl _)⟩
end Go.Proofs.Ytilpnbejpndgpaa.X

/- WithoutNeedless of the program. -/
set_option linter.unusedVariables false
set_option linter.unusedSimpArgs false
set_option maxRecDepth 20000
set_option maxHeartbeats 4000000
namespace Go.Proofs.Ytilpnbejpndgpaa.X
open Go Go.RowKit

theorem Lst.app3 {n : Nat} {l : List Int} {full : Bool} {H : AH} {x : Int} {e' : TypeId} {ro fu : Bool} (o : Lst H n l full) (hl : (l.length : Int) ≤ 1048576) {Q : Value → AH → Prop}
    (hQ : ∀ H' : AH, H'.length = H.length + 2 → (∀ h0 : AH, h0.length ≤ n → h0 <+: H → h0 <+: H') → (∀ m b, m ≠ n → H.get m = some b → H'.get m = some b) → Lst H' (H.length + 1) (l ++ [x]) false → Q (sl (H.length + 1) (l ++ [x]).length) H') :
    OQ (appV 2 1 8 (sl n l.length) (.slice (some ⟨H.length, 0, none⟩) 1 1) (H.new ⟨[I64 x], e', ro, fu⟩)) Q := by
  have hn : (H.new ⟨[I64 x], e', ro, fu⟩).rdn H.length 0 1 = some [I64 x] := by rw [rdn_new_same]; rfl
  have hk : (H.new ⟨[I64 x], e', ro, fu⟩).get n = some ⟨l.map (Value.int .i64), 2, false, full⟩ := get_new_any o
  have hkb := o.lt
  unfold sl
  rw [app_own hk (by simp) hn (by omega), OQ_some]
  have := hQ (((H.new ⟨[I64 x], e', ro, fu⟩).kill n).new ⟨l.map (Value.int .i64) ++ [I64 x], 2, false, false⟩) (by rw [len_new, len_kill, len_new]) (fun h0 q p => pre_new (pre_kill (pre_new p) q))
    (fun m b hm o => get_new_any (by rw [get_kill_ne (fun e => hm e.symm)]; exact get_new_any o)) (by unfold Lst; rw [get_new_eq (by rw [len_kill, len_new])]; simp)
  unfold sl at this
  rw [len_new]
  rw [List.length_append, List.length_singleton] at this
  exact this
theorem nmI_at {x : Prg} {c j : Nat} (hj : j < c) : (gen c (rk x)).getD j 0 = rk x j := gen_get hj
theorem i_WithoutNeedless {v w : Value} {x : Prg} {h : AH} {Q : Value → AH → Prop} (hv : PrgR h v w x) (hl : SmallP x)
    (hQ : ∀ v' w' h', h <+: h' → InP h.length h'.length h' v' w' (wnR x).1 → Q (.tuple #[prgV (wnR x).1 v' w', I64 (wnR x).2]) h') : WF S 39 [prgV x v w] h Q := by
  refine WF_fn (fn := c39) rfl rfl ?_
  unfold c39
  ((try simp (maxSteps := 3000000) (dsimp := false) (disch := first | omega | (simp only [len_new, len_put, len_kill]; omega)) only [↓ypre, ypost, ↓reduceIte, Nat.reduceEqDiff, Nat.reduceAdd, Nat.reduceSub, Nat.reduceLeDiff, Nat.zero_add, Nat.sub_zero, ynew, prgV, hv.1.one, hv.2.one]); try simp only [yback])
  generalize hH1 : AH.new h _ = H1
  obtain ⟨hb1, p1, n1⟩ := new_facts hH1
  generalize hH2 : AH.new H1 _ = H2
  obtain ⟨hb2, p2, n2⟩ := new_facts hH2
  have hb1 := pre_get p2 hb1
  ((try simp (maxSteps := 3000000) (dsimp := false) (disch := first | omega | (simp only [len_new, len_put, len_kill]; omega)) only [↓ypre, ypost, ↓reduceIte, Nat.reduceEqDiff, Nat.reduceAdd, Nat.reduceSub, Nat.reduceLeDiff, Nat.zero_add, Nat.sub_zero, ynew, rdn_of hb1]); try simp only [yback])
  refine i_IsPrg (hv.pre (p1.trans p2)) hl fun H3 p3 => ?_
  have hb1 := pre_get p3 hb1
  have hb2 := pre_get p3 hb2
  have lt2 := get_lt hb2
  unfold wnR at hQ
  cases h1 : isPrg x with
  | false =>
    rw [h1, if_neg (by decide)] at hQ
    ((try simp (maxSteps := 3000000) (dsimp := false) (disch := first | omega | (simp only [len_new, len_put, len_kill]; omega)) only [↓ypre, ypost, ↓reduceIte, Nat.reduceEqDiff, Nat.reduceAdd, Nat.reduceSub, Nat.reduceLeDiff, Nat.zero_add, Nat.sub_zero, ynew, wr_of hb2]); try simp only [yback])
    exact hQ (.slice none 0 0) (.slice none 0 0) _ (pre_put ((p1.trans p2).trans p3) (by omega)) ⟨h.length, Nat.le_refl _, by rw [len_put]; omega, .inl ⟨rfl, rfl⟩, .inl ⟨rfl, rfl⟩⟩
  | true =>
    rw [h1, if_pos rfl] at hQ
    have pf := isPrg_facts h1
    have fp := pf.p
    have fn := pf.n
    have fst := pf.st
    have fout := pf.out
    have p13 := (p1.trans p2).trans p3
    have l13 := pre_len p3
    obtain ⟨N, hN⟩ : ∃ N : Nat, x.n = N := ⟨x.n.toNat, by omega⟩
    have hNt : x.n.toNat = N := by omega
    obtain ⟨C, hC⟩ : ∃ C : Nat, C = N + x.st.length := ⟨_, rfl⟩
    have eC : x.n + (x.st.length : Int) = (C : Int) := by omega
    have uol : ∀ i, (uO x i).length = C := fun i => by rw [uO_len, hNt, hC]
    have usl : ∀ i, (uS x i).length = C := fun i => by rw [uS_len, hNt, hC]
    ((try simp (maxSteps := 3000000) (dsimp := false) (disch := first | omega | (simp only [len_new, len_put, len_kill]; omega)) only [↓ypre, ypost, ↓reduceIte, Nat.reduceEqDiff, Nat.reduceAdd, Nat.reduceSub, Nat.reduceLeDiff, Nat.zero_add, Nat.sub_zero, ynew, rd1_of hb1, hv.1.len, eC, wrap64_in]); try simp only [yback])
    refine ⟨by omega, ?_⟩
    rw [Int.toNat_natCast, zrep_bools]
    generalize hH4 : AH.new H3 _ = H4
    obtain ⟨hb4, p4, n4⟩ := new_facts hH4
    have bu0 : Bls H4 H3.length (uO x 0) := by
      unfold uO
      rw [hNt, ← hC]
      exact hb4
    ((try simp (maxSteps := 3000000) (dsimp := false) (disch := first | omega | (simp only [len_new, len_put, len_kill]; omega)) only [↓ypre, ypost, ↓reduceIte, Nat.reduceEqDiff, Nat.reduceAdd, Nat.reduceSub, Nat.reduceLeDiff, Nat.zero_add, Nat.sub_zero, ynew, rd1_of (pre_get p4 hb1), hv.2.len]); try simp only [yback])
    refine WC_loop_inv (fun m f K1 => ∃ (i : Nat), m = x.out.length - i ∧ i ≤ x.out.length ∧ f 1 = .pointer (some ⟨h.length, 0, none⟩) ∧ f 2 = .pointer (some ⟨H1.length, 0, none⟩) ∧ f 4 = I64 x.n ∧ f 5 = sl H3.length C ∧ f 29 = w ∧ f 30 = I64 x.out.length ∧ f 31 = I64 i ∧ (H3 <+: K1) ∧ (Bls K1 H3.length (uO x i))) ?_ (x.out.length - 0) _ _ ⟨0, rfl, by omega, (by first | rfl | (simp [upd_apply]; done)), (by first | rfl | (simp [upd_apply]; done)), (by first | rfl | (simp [upd_apply]; done)), (by first | rfl | (simp [upd_apply]; done)), (by first | rfl | (simp [upd_apply]; done)), (by first | rfl | (simp [upd_apply]; done)), (by first | rfl | (simp [upd_apply]; done)), p4, bu0⟩
    rintro m f K1 ⟨i, rfl, hi, f1, f2, f4, f5, f29, f30, f31, pp, bu⟩
    have hbK := pre_get pp hb1
    have ltK := get_lt hbK
    have hvK := hv.pre (p13.trans pp)
    by_cases hlt : (i : Int) < x.out.length
    · have hi' : i < x.out.length := by omega
      obtain ⟨n', off', hix', hrn'⟩ := hvK.2.rdw hi'
      obtain ⟨a, b, hq⟩ := all2 (hvK.2.wid hi')
      rw [hq, cel_2] at hrn'
      have s2 := pf.out2 hi' hq
      have en : nOut x i = a.toNat := by unfold nOut nq; rw [hq]; rfl
      have e1 : (x.out.getD i []).getD 1 0 = b := by rw [hq]; rfl
      by_cases hb0 : b = 0
      · ((try simp (maxSteps := 3000000) (dsimp := false) (disch := first | omega | (simp only [len_new, len_put, len_kill]; omega)) only [↓ypre, ypost, ↓reduceIte, Nat.reduceEqDiff, Nat.reduceAdd, Nat.reduceSub, Nat.reduceLeDiff, Nat.zero_add, Nat.sub_zero, ynew, f1, f2, f4, f5, f29, f30, f31, decide_eq_true hlt, hix', hrn', decide_eq_false (show ¬ b ≠ 0 from fun y => y hb0), wrap64_in]); try simp only [yback])
        refine InvQ_go (x.out.length - (i + 1)) (by omega) ⟨(i + 1), rfl, by omega, (by first | rfl | exact f1 | (simp only [upd_apply]; rfl) | (show I64 _ = _; congr 1; omega)), (by first | rfl | exact f2 | (simp only [upd_apply]; rfl) | (show I64 _ = _; congr 1; omega)), (by first | rfl | exact f4 | (simp only [upd_apply]; rfl) | (show I64 _ = _; congr 1; omega)), (by first | rfl | exact f5 | (simp only [upd_apply]; rfl) | (show I64 _ = _; congr 1; omega)), (by first | rfl | exact f29 | (simp only [upd_apply]; rfl) | (show I64 _ = _; congr 1; omega)), (by first | rfl | exact f30 | (simp only [upd_apply]; rfl) | (show I64 _ = _; congr 1; omega)), (by first | rfl | exact f31 | (simp only [upd_apply]; rfl) | (show I64 _ = _; congr 1; omega)), (pre_new pp), (by unfold uO; rw [if_pos (by rw [e1]; exact hb0)]; exact bu.pre (pre_new (List.prefix_refl _)))⟩
      · have ixa := Lst.ix (n := H3.length) (j := a) (len := C) (by omega)
        ((try simp (maxSteps := 3000000) (dsimp := false) (disch := first | omega | (simp only [len_new, len_put, len_kill]; omega)) only [↓ypre, ypost, ↓reduceIte, Nat.reduceEqDiff, Nat.reduceAdd, Nat.reduceSub, Nat.reduceLeDiff, Nat.zero_add, Nat.sub_zero, ynew, f1, f2, f4, f5, f29, f30, f31, decide_eq_true hlt, hix', hrn', decide_eq_true (show b ≠ 0 from hb0), ixa, wrap64_in]); try simp only [yback])
        generalize hHB : AH.new K1 _ = HB
        obtain ⟨hbB, pB, nB⟩ := new_facts hHB
        obtain ⟨H5, w5, e5, b5⟩ := (bu.pre pB).wr (j := a.toNat) (x := true) (by rw [uol]; omega)
        ((try simp (maxSteps := 3000000) (dsimp := false) (disch := first | omega | (simp only [len_new, len_put, len_kill]; omega)) only [↓ypre, ypost, ↓reduceIte, Nat.reduceEqDiff, Nat.reduceAdd, Nat.reduceSub, Nat.reduceLeDiff, Nat.zero_add, Nat.sub_zero, ynew, f1, f2, f4, f5, f29, f30, f31, w5, wrap64_in]); try simp only [yback])
        refine InvQ_go (x.out.length - (i + 1)) (by omega) ⟨(i + 1), rfl, by omega, (by first | rfl | exact f1 | (simp only [upd_apply]; rfl) | (show I64 _ = _; congr 1; omega)), (by first | rfl | exact f2 | (simp only [upd_apply]; rfl) | (show I64 _ = _; congr 1; omega)), (by first | rfl | exact f4 | (simp only [upd_apply]; rfl) | (show I64 _ = _; congr 1; omega)), (by first | rfl | exact f5 | (simp only [upd_apply]; rfl) | (show I64 _ = _; congr 1; omega)), (by first | rfl | exact f29 | (simp only [upd_apply]; rfl) | (show I64 _ = _; congr 1; omega)), (by first | rfl | exact f30 | (simp only [upd_apply]; rfl) | (show I64 _ = _; congr 1; omega)), (by first | rfl | exact f31 | (simp only [upd_apply]; rfl) | (show I64 _ = _; congr 1; omega)), (by rw [e5]; exact pre_put (pp.trans pB) (Nat.le_refl _)), (by unfold uO; rw [if_neg (by rw [e1]; exact hb0), en]; exact b5)⟩
    have ei : i = x.out.length := by omega
    subst ei
    ((try simp (maxSteps := 3000000) (dsimp := false) (disch := first | omega | (simp only [len_new, len_put, len_kill]; omega)) only [↓ypre, ypost, ↓reduceIte, Nat.reduceEqDiff, Nat.reduceAdd, Nat.reduceSub, Nat.reduceLeDiff, Nat.zero_add, Nat.sub_zero, ynew, f1, f2, f4, f5, f29, f30, f31, rd1_of hbK, hvK.1.len, decide_eq_false hlt, wrap64_in]); try simp only [yback])
    refine WC_loop_inv (fun m f K2 => ∃ (z : Nat), m = x.st.length - z ∧ z ≤ x.st.length ∧ f 1 = .pointer (some ⟨h.length, 0, none⟩) ∧ f 2 = .pointer (some ⟨H1.length, 0, none⟩) ∧ f 4 = I64 x.n ∧ f 5 = sl H3.length C ∧ f 8 = I64 ((x.st.length : Int) - 1 - (z : Int)) ∧ (H3 <+: K2) ∧ (Bls K2 H3.length (uS x z))) ?_ (x.st.length - 0) _ _ ⟨0, rfl, by omega, (by first | rfl | exact f1 | (simp [upd_apply]; done)), (by first | rfl | exact f2 | (simp [upd_apply]; done)), (by first | rfl | exact f4 | (simp [upd_apply]; done)), (by first | rfl | exact f5 | (simp [upd_apply]; done)), (by first | rfl | (simp [upd_apply]; done)), pp, bu⟩
    rintro m f K2 ⟨z, rfl, hz, f1, f2, f4, f5, f8, pp, bu⟩
    have hbK := pre_get pp hb1
    have ltK := get_lt hbK
    have hvK := hv.pre (p13.trans pp)
    by_cases hlt : 0 ≤ (x.st.length : Int) - 1 - (z : Int)
    · obtain ⟨i, hi⟩ : ∃ i : Nat, i = x.st.length - 1 - z := ⟨_, rfl⟩
      have hi' : i < x.st.length := by omega
      have ei : (x.st.length : Int) - 1 - (z : Int) = (i : Int) := by omega
      obtain ⟨n', off', hix', hrn', hr1⟩ := hvK.1.at hi'
      obtain ⟨a, b, d, hq⟩ := all3 (hvK.1.wid hi')
      have r0 := hr1 0 (by omega)
      have r1 := hr1 1 (by omega)
      rw [hq] at r0 r1
      simp only [Nat.add_zero, List.getD_cons_zero, List.getD_cons_succ] at r0 r1
      have s3 := pf.st3 hi' hq
      have ea : nSt x i 0 = a.toNat := by unfold nSt nq; rw [hq]; rfl
      have eb : nSt x i 1 = b.toNat := by unfold nSt nq; rw [hq]; rfl
      have eni : x.n + (i : Int) = ((N + i : Nat) : Int) := by omega
      have ixu := Lst.ix (n := H3.length) (j := ((N + i : Nat) : Int)) (len := C) (by omega)
      have ixa := Lst.ix (n := H3.length) (j := a) (len := C) (by omega)
      have ixb := Lst.ix (n := H3.length) (j := b) (len := C) (by omega)
      rw [Int.toNat_natCast] at ixu
      have ru := bu.rd (j := N + i) (by rw [usl]; omega)
      have eu : uS x (z + 1) = if (uS x z).getD (N + i) false = true then ((uS x z).set a.toNat true).set b.toNat true else uS x z := by
        show (if (uS x z).getD (x.n.toNat + (x.st.length - 1 - z)) false = true then ((uS x z).set (nSt x (x.st.length - 1 - z) 0) true).set (nSt x (x.st.length - 1 - z) 1) true else uS x z) = _
        rw [← hi, hNt, ea, eb]
      cases hU : (uS x z).getD (N + i) false with
      | false =>
        rw [hU] at ru eu
        rw [if_neg (by decide)] at eu
        ((try simp (maxSteps := 3000000) (dsimp := false) (disch := first | omega | (simp only [len_new, len_put, len_kill]; omega)) only [↓ypre, ypost, ↓reduceIte, Nat.reduceEqDiff, Nat.reduceAdd, Nat.reduceSub, Nat.reduceLeDiff, Nat.zero_add, Nat.sub_zero, ynew, f1, f2, f4, f5, f8, Nat.add_zero, rd1_of hbK, decide_eq_true (show (0 : Int) ≤ (i : Int) by omega), ei, eni, ixu, ru, wrap64_in]); try simp only [yback])
        refine InvQ_go (x.st.length - (z + 1)) (by omega) ⟨(z + 1), rfl, by omega, (by first | rfl | exact f1 | (simp only [upd_apply]; rfl) | (show I64 _ = _; congr 1; omega)), (by first | rfl | exact f2 | (simp only [upd_apply]; rfl) | (show I64 _ = _; congr 1; omega)), (by first | rfl | exact f4 | (simp only [upd_apply]; rfl) | (show I64 _ = _; congr 1; omega)), (by first | rfl | exact f5 | (simp only [upd_apply]; rfl) | (show I64 _ = _; congr 1; omega)), (by show I64 _ = I64 _; congr 1; omega), pp, (by rw [eu]; exact bu)⟩
      | true =>
        rw [hU] at ru eu
        rw [if_pos rfl] at eu
        obtain ⟨H5, w5, e5, b5⟩ := bu.wr (j := a.toNat) (x := true) (by rw [usl]; omega)
        obtain ⟨H6, w6, e6, b6⟩ := b5.wr (j := b.toNat) (x := true) (by rw [List.length_set, usl]; omega)
        have q5 : H3 <+: H5 := by rw [e5]; exact pre_put pp (Nat.le_refl _)
        have q6 : H3 <+: H6 := by rw [e6]; exact pre_put q5 (Nat.le_refl _)
        obtain ⟨m5, o5, hix5, hrn5, hr5⟩ := (hv.pre (p13.trans q5)).1.at hi'
        have ha := hix' .i64
        rw [hix5 .i64] at ha
        simp only [Option.some.injEq, Value.pointer.injEq, Addr.mk.injEq, and_true] at ha
        obtain ⟨rfl, rfl⟩ := ha
        have r15 := hr5 1 (by omega)
        rw [hq] at r15
        simp only [List.getD_cons_zero, List.getD_cons_succ] at r15
        ((try simp (maxSteps := 3000000) (dsimp := false) (disch := first | omega | (simp only [len_new, len_put, len_kill]; omega)) only [↓ypre, ypost, ↓reduceIte, Nat.reduceEqDiff, Nat.reduceAdd, Nat.reduceSub, Nat.reduceLeDiff, Nat.zero_add, Nat.sub_zero, ynew, f1, f2, f4, f5, f8, Nat.add_zero, rd1_of hbK, decide_eq_true (show (0 : Int) ≤ (i : Int) by omega), ei, eni, ixu, ru, hix', r0, ixa, w5, rd1_of (pre_get q5 hb1), r15, ixb, w6, wrap64_in]); try simp only [yback])
        refine InvQ_go (x.st.length - (z + 1)) (by omega) ⟨(z + 1), rfl, by omega, (by first | rfl | exact f1 | (simp only [upd_apply]; rfl) | (show I64 _ = _; congr 1; omega)), (by first | rfl | exact f2 | (simp only [upd_apply]; rfl) | (show I64 _ = _; congr 1; omega)), (by first | rfl | exact f4 | (simp only [upd_apply]; rfl) | (show I64 _ = _; congr 1; omega)), (by first | rfl | exact f5 | (simp only [upd_apply]; rfl) | (show I64 _ = _; congr 1; omega)), (by show I64 _ = I64 _; congr 1; omega), q6, (by rw [eu]; exact b6)⟩
    have ez : z = x.st.length := by omega
    subst ez
    ((try simp (maxSteps := 3000000) (dsimp := false) (disch := first | omega | (simp only [len_new, len_put, len_kill]; omega)) only [↓ypre, ypost, ↓reduceIte, Nat.reduceEqDiff, Nat.reduceAdd, Nat.reduceSub, Nat.reduceLeDiff, Nat.zero_add, Nat.sub_zero, ynew, f1, f2, f4, f5, f8, rd1_of hbK, decide_eq_false hlt]); try simp only [yback])
    have k2 := pre_len pp
    generalize hH7 : AH.new K2 _ = H7
    obtain ⟨hb7, p7, n7⟩ := new_facts hH7
    generalize hH8 : AH.new H7 _ = H8
    obtain ⟨hb8, p8, n8⟩ := new_facts hH8
    have ln0 : Lst H8 K2.length (gen 0 (rk x)) true := pre_get p8 hb7
    refine WC_loop_inv (fun m f K3 => ∃ (k : Nat) (kv : Nat) (fu : Bool), m = N - k ∧ k ≤ N ∧ f 1 = .pointer (some ⟨h.length, 0, none⟩) ∧ f 2 = .pointer (some ⟨H1.length, 0, none⟩) ∧ f 4 = I64 x.n ∧ f 5 = sl H3.length C ∧ f 9 = .pointer (some ⟨H7.length, 0, none⟩) ∧ f 10 = sl kv (gen k (rk x)).length ∧ f 78 = I64 x.n ∧ f 79 = I64 k ∧ (K2 <+: K3) ∧ (Lst K3 kv (gen k (rk x)) fu) ∧ (K2.length ≤ kv ∧ kv ≠ H7.length) ∧ (OwnB K3 H7.length [I64 x.p, I64 x.n, .slice none 0 0, .slice none 0 0] true)) ?_ (N - 0) _ _ ⟨0, K2.length, true, rfl, by omega, (by first | rfl | exact f1 | (simp [upd_apply]; done)), (by first | rfl | exact f2 | (simp [upd_apply]; done)), (by first | rfl | exact f4 | (simp [upd_apply]; done)), (by first | rfl | exact f5 | (simp [upd_apply]; done)), (by first | rfl | (simp [upd_apply]; done)), (by first | rfl | (simp [upd_apply]; done)), (by first | rfl | (simp [upd_apply]; done)), (by first | rfl | (simp [upd_apply]; done)), p7.trans p8, ln0, ⟨Nat.le_refl _, by omega⟩, ⟨_, hb8⟩⟩
    rintro m f K3 ⟨k, kv, fu, rfl, hk, f1, f2, f4, f5, f9, f10, f78, f79, p2x, ln, hkv, g9⟩
    have k3 := pre_len p2x
    have gl := gen_len (N := k) (g := rk x)
    obtain ⟨e9, g9⟩ := g9
    have lt9 := get_lt g9
    by_cases hltk : (k : Int) < x.n
    · have hrk : rk x k = k := rk_low (by omega)
      ((try simp (maxSteps := 3000000) (dsimp := false) (disch := first | omega | (simp only [len_new, len_put, len_kill]; omega)) only [↓ypre, ypost, ↓reduceIte, Nat.reduceEqDiff, Nat.reduceAdd, Nat.reduceSub, Nat.reduceLeDiff, Nat.zero_add, Nat.sub_zero, ynew, f1, f2, f4, f5, f9, f10, f78, f79, decide_eq_true hltk, wrap64_in]); try simp only [yback])
      refine ln.app3 (by omega) fun H5 l5 pre5 keep5 ln5 => ?_
      rw [← hrk, ← gen_succ] at ln5
      ((try simp (maxSteps := 3000000) (dsimp := false) (disch := first | omega | (simp only [len_new, len_put, len_kill]; omega)) only [↓ypre, ypost, ↓reduceIte, Nat.reduceEqDiff, Nat.reduceAdd, Nat.reduceSub, Nat.reduceLeDiff, Nat.zero_add, Nat.sub_zero, ynew, f1, f2, f4, f5, f9, f10, f78, f79, wrap64_in]); try simp only [yback])
      refine InvQ_go (N - (k + 1)) (by omega) ⟨(k + 1), (K3.length + 1), false, rfl, by omega, (by first | rfl | exact f1 | (simp only [upd_apply]; rfl) | (show I64 _ = _; congr 1; omega)), (by first | rfl | exact f2 | (simp only [upd_apply]; rfl) | (show I64 _ = _; congr 1; omega)), (by first | rfl | exact f4 | (simp only [upd_apply]; rfl) | (show I64 _ = _; congr 1; omega)), (by first | rfl | exact f5 | (simp only [upd_apply]; rfl) | (show I64 _ = _; congr 1; omega)), (by first | rfl | exact f9 | (simp only [upd_apply]; rfl) | (show I64 _ = _; congr 1; omega)), (by rw [gen_succ, hrk]; rfl), (by first | rfl | exact f78 | (simp only [upd_apply]; rfl) | (show I64 _ = _; congr 1; omega)), (by first | rfl | exact f79 | (simp only [upd_apply]; rfl) | (show I64 _ = _; congr 1; omega)), (pre5 _ hkv.1 p2x), ln5, ⟨by omega, by omega⟩, ⟨e9, keep5 _ _ (fun e => hkv.2 e.symm) g9⟩⟩
    have ek : k = N := by omega
    subst ek
    have pK := pp.trans p2x
    have hbK := pre_get pK hb1
    ((try simp (maxSteps := 3000000) (dsimp := false) (disch := first | omega | (simp only [len_new, len_put, len_kill]; omega)) only [↓ypre, ypost, ↓reduceIte, Nat.reduceEqDiff, Nat.reduceAdd, Nat.reduceSub, Nat.reduceLeDiff, Nat.zero_add, Nat.sub_zero, ynew, f1, f2, f4, f5, f9, f10, f78, f79, decide_eq_false hltk, rd1_of hbK, hv.1.len]); try simp only [yback])
    have ws0 : WayX (96) .i64 3 K3 K2.length [kv, H7.length] (.slice none 0 0) (wnSt x 0) := ⟨fun r hr => by simp [wnSt] at hr, .inl ⟨rfl, rfl⟩⟩
    have ln0' : Lst K3 kv (gen (k + 0) (rk x)) fu := ln
    refine WC_loop_inv (fun m f K4 => ∃ (y : Nat) (kv : Nat) (fu : Bool) (sv : Value), m = x.st.length - y ∧ y ≤ x.st.length ∧ f 1 = .pointer (some ⟨h.length, 0, none⟩) ∧ f 2 = .pointer (some ⟨H1.length, 0, none⟩) ∧ f 4 = I64 x.n ∧ f 5 = sl H3.length C ∧ f 9 = .pointer (some ⟨H7.length, 0, none⟩) ∧ f 10 = sl kv (gen (k + y) (rk x)).length ∧ f 88 = v ∧ f 89 = I64 x.st.length ∧ f 90 = I64 y ∧ (K2 <+: K4) ∧ (Lst K4 kv (gen (k + y) (rk x)) fu) ∧ (WayX (96) .i64 3 K4 K2.length [kv, H7.length] sv (wnSt x y)) ∧ (K2.length ≤ kv ∧ kv ≠ H7.length) ∧ (OwnB K4 H7.length [I64 x.p, I64 x.n, sv, .slice none 0 0] true)) ?_ (x.st.length - 0) _ _ ⟨0, kv, fu, .slice none 0 0, rfl, by omega, (by first | rfl | exact f1 | (simp [upd_apply]; done)), (by first | rfl | exact f2 | (simp [upd_apply]; done)), (by first | rfl | exact f4 | (simp [upd_apply]; done)), (by first | rfl | exact f5 | (simp [upd_apply]; done)), (by first | rfl | exact f9 | (simp [upd_apply]; done)), (by first | rfl | exact f10 | (simp [upd_apply]; done)), (by first | rfl | (simp [upd_apply]; done)), (by first | rfl | (simp [upd_apply]; done)), (by first | rfl | (simp [upd_apply]; done)), p2x, ln0', ws0, hkv, ⟨_, g9⟩⟩
    rintro m f K4 ⟨y, kv, fu, sv, rfl, hy, f1, f2, f4, f5, f9, f10, f88, f89, f90, p2x, ln, wb, hkv, g9⟩
    have k4 := pre_len p2x
    have pK := pp.trans p2x
    have hbK := pre_get pK hb1
    have ltK := get_lt hbK
    have hvK := hv.pre (p13.trans pK)
    obtain ⟨e9, g9⟩ := g9
    have lt9 := get_lt g9
    have ltv := ln.lt
    have wle := wnSt_le (x := x) (i := y)
    have wln := wnSt_len (x := x) (i := y)
    have gl := gen_len (N := k + y) (g := rk x)
    rw [hNt] at wln
    by_cases hlt : (y : Int) < x.st.length
    · have hy : y < x.st.length := by omega
      obtain ⟨n', off', hix', hrn'⟩ := hvK.1.rdw hy
      obtain ⟨a, b, d, hq⟩ := all3 (hvK.1.wid hy)
      rw [hq, cel_3] at hrn'
      have s3 := pf.st3 hy hq
      have ea : nSt x y 0 = a.toNat := by unfold nSt nq; rw [hq]; rfl
      have eb : nSt x y 1 = b.toNat := by unfold nSt nq; rw [hq]; rfl
      have eny : x.n + (y : Int) = ((k + y : Nat) : Int) := by omega
      have enl : x.n + ((wnSt x y).length : Int) = rk x (k + y) := by omega
      have ixu := Lst.ix (n := H3.length) (j := ((k + y : Nat) : Int)) (len := C) (by omega)
      rw [Int.toNat_natCast] at ixu
      have ru := (bu.pre (show K2 <+: K4 from p2x)).rd (j := k + y) (by rw [usl]; omega)
      have eu : wnSt x (y + 1) = if (uS x x.st.length).getD (k + y) false = true then wnSt x y ++ [[rk x a.toNat, rk x b.toNat, d]] else wnSt x y := by
        show (if (uS x x.st.length).getD (x.n.toNat + y) false = true then wnSt x y ++ [[rk x (nSt x y 0), rk x (nSt x y 1), (x.st.getD y []).getD 2 0]] else wnSt x y) = _
        rw [hNt, ea, eb, hq]
        rfl
      have egs : gen (k + y) (rk x) ++ [rk x (k + y)] = gen (k + (y + 1)) (rk x) := gen_succ.symm
      have gl' := gen_len (N := k + (y + 1)) (g := rk x)
      ((try simp (maxSteps := 3000000) (dsimp := false) (disch := first | omega | (simp only [len_new, len_put, len_kill]; omega)) only [↓ypre, ypost, ↓reduceIte, Nat.reduceEqDiff, Nat.reduceAdd, Nat.reduceSub, Nat.reduceLeDiff, Nat.zero_add, Nat.sub_zero, ynew, f1, f2, f4, f5, f9, f10, f88, f89, f90, decide_eq_true hlt, hix', hrn', rd1_of g9, wb.len, enl, wrap64_in]); try simp only [yback])
      generalize hHB : AH.new K4 _ = HB
      obtain ⟨hbB, pB, nB⟩ := new_facts hHB
      refine (ln.pre pB).app3 (by omega) fun H5 l5 pre5 keep5 ln5 => ?_
      have q5 : K2 <+: H5 := pre5 _ hkv.1 (p2x.trans pB)
      have g5 := keep5 _ _ (fun e => hkv.2 e.symm) (pre_get pB g9)
      have gB := keep5 _ _ (by omega) hbB
      have ru := (bu.pre q5).rd (j := k + y) (by rw [usl]; omega)
      have wb5 : WayX (96) .i64 3 H5 K2.length [HB.length + 1, H7.length] sv (wnSt x y) := (((wb.exc (ex' := [kv, H7.length, HB.length + 1]) (fun m' hm => by
        simp only [List.mem_cons, List.not_mem_nil, or_false] at hm ⊢
        omega)).pre pB).keep (fun m' c' f' hm _ g => keep5 _ _ (fun e => hm (by rw [e]; simp)) g)).exc (fun m' hm => .inl (by
        simp only [List.mem_cons, List.not_mem_nil, or_false] at hm ⊢
        omega))
      cases hU : (uS x x.st.length).getD (k + y) false with
      | false =>
        rw [hU] at ru eu
        rw [if_neg (by decide)] at eu
        ((try simp (maxSteps := 3000000) (dsimp := false) (disch := first | omega | (simp only [len_new, len_put, len_kill]; omega)) only [↓ypre, ypost, ↓reduceIte, Nat.reduceEqDiff, Nat.reduceAdd, Nat.reduceSub, Nat.reduceLeDiff, Nat.zero_add, Nat.sub_zero, ynew, f1, f2, f4, f5, f9, f10, f88, f89, f90, eny, ixu, ru, wrap64_in]); try simp only [yback])
        refine InvQ_go (x.st.length - (y + 1)) (by omega) ⟨(y + 1), (HB.length + 1), false, sv, rfl, by omega, (by first | rfl | exact f1 | (simp only [upd_apply]; rfl) | (show I64 _ = _; congr 1; omega)), (by first | rfl | exact f2 | (simp only [upd_apply]; rfl) | (show I64 _ = _; congr 1; omega)), (by first | rfl | exact f4 | (simp only [upd_apply]; rfl) | (show I64 _ = _; congr 1; omega)), (by first | rfl | exact f5 | (simp only [upd_apply]; rfl) | (show I64 _ = _; congr 1; omega)), (by first | rfl | exact f9 | (simp only [upd_apply]; rfl) | (show I64 _ = _; congr 1; omega)), (by rw [← egs]; rfl), (by first | rfl | exact f88 | (simp only [upd_apply]; rfl) | (show I64 _ = _; congr 1; omega)), (by first | rfl | exact f89 | (simp only [upd_apply]; rfl) | (show I64 _ = _; congr 1; omega)), (by first | rfl | exact f90 | (simp only [upd_apply]; rfl) | (show I64 _ = _; congr 1; omega)), q5, (by rw [← egs]; exact ln5), (by rw [eu]; exact wb5), ⟨by omega, by omega⟩, ⟨e9, g5⟩⟩
      | true =>
        have cl := uS_closed hvK pf (Nat.le_refl _) y (by omega) hy (by rw [hNt]; exact hU)
        rw [ea, eb] at cl
        rw [hU] at ru eu
        rw [if_pos rfl] at eu
        have ixa := Lst.ix (n := HB.length + 1) (j := a) (len := (gen (k + y) (rk x) ++ [rk x (k + y)]).length) (by rw [egs]; omega)
        have ixb := Lst.ix (n := HB.length + 1) (j := b) (len := (gen (k + y) (rk x) ++ [rk x (k + y)]).length) (by rw [egs]; omega)
        have ra := ln5.rd (j := a.toNat) (by rw [egs]; omega)
        have rb := ln5.rd (j := b.toNat) (by rw [egs]; omega)
        rw [egs, nmI_at (by omega)] at ra rb
        ((try simp (maxSteps := 3000000) (dsimp := false) (disch := first | omega | (simp only [len_new, len_put, len_kill]; omega)) only [↓ypre, ypost, ↓reduceIte, Nat.reduceEqDiff, Nat.reduceAdd, Nat.reduceSub, Nat.reduceLeDiff, Nat.zero_add, Nat.sub_zero, ynew, f1, f2, f4, f5, f9, f10, f88, f89, f90, eny, ixu, ru, rd1_of gB, rd1_of g5, ixa, ra, ixb, rb, wrap64_in]); try simp only [yback])
        refine wb5.app (q := [rk x a.toNat, rk x b.toNat, d]) rfl (by omega) (by omega) (by omega) (by simp; omega) fun sv' H' l' pre' keep' wb' => ?_
        have g9' := keep' _ _ (.inr (by simp)) g5
        have ln6 : Lst H' (HB.length + 1) (gen (k + (y + 1)) (rk x)) false := by
          rw [← egs]
          exact keep' _ _ (.inr (by simp)) ln5
        have lt9' := get_lt g9'
        ((try simp (maxSteps := 3000000) (dsimp := false) (disch := first | omega | (simp only [len_new, len_put, len_kill]; omega)) only [↓ypre, ypost, ↓reduceIte, Nat.reduceEqDiff, Nat.reduceAdd, Nat.reduceSub, Nat.reduceLeDiff, Nat.zero_add, Nat.sub_zero, ynew, f1, f2, f4, f5, f9, f10, f88, f89, f90, wb'.one, wb'.cells, wr_of g9', wrap64_in]); try simp only [yback])
        refine InvQ_go (x.st.length - (y + 1)) (by omega) ⟨(y + 1), (HB.length + 1), false, sv', rfl, by omega, (by first | rfl | exact f1 | (simp only [upd_apply]; rfl) | (show I64 _ = _; congr 1; omega)), (by first | rfl | exact f2 | (simp only [upd_apply]; rfl) | (show I64 _ = _; congr 1; omega)), (by first | rfl | exact f4 | (simp only [upd_apply]; rfl) | (show I64 _ = _; congr 1; omega)), (by first | rfl | exact f5 | (simp only [upd_apply]; rfl) | (show I64 _ = _; congr 1; omega)), (by first | rfl | exact f9 | (simp only [upd_apply]; rfl) | (show I64 _ = _; congr 1; omega)), (by rw [← egs]; rfl), (by first | rfl | exact f88 | (simp only [upd_apply]; rfl) | (show I64 _ = _; congr 1; omega)), (by first | rfl | exact f89 | (simp only [upd_apply]; rfl) | (show I64 _ = _; congr 1; omega)), (by first | rfl | exact f90 | (simp only [upd_apply]; rfl) | (show I64 _ = _; congr 1; omega)), (pre_put (pre' _ (Nat.le_refl _) q5) (by omega)), (ln6.put_ne (by omega)), (by rw [eu]; exact (wb'.put (.inr (by simp))).mlo (by omega)), ⟨by omega, by omega⟩, ⟨e9, get_put_same lt9'⟩⟩
    have ey : y = x.st.length := by omega
    subst ey
    ((try simp (maxSteps := 3000000) (dsimp := false) (disch := first | omega | (simp only [len_new, len_put, len_kill]; omega)) only [↓ypre, ypost, ↓reduceIte, Nat.reduceEqDiff, Nat.reduceAdd, Nat.reduceSub, Nat.reduceLeDiff, Nat.zero_add, Nat.sub_zero, ynew, f1, f2, f4, f5, f9, f10, f88, f89, f90, rd1_of hbK, hvK.2.len, decide_eq_false hlt]); try simp only [yback])
    obtain ⟨E, hE, hold⟩ := wb.hold
    have wo0 : WayX (98) .i64 2 K4 K4.length (H7.length :: kv :: E) (.slice none 0 0) (wnOut x 0) := ⟨fun r hr => by simp [wnOut] at hr, .inl ⟨rfl, rfl⟩⟩
    refine WC_loop_inv (fun m f K5 => ∃ (j : Nat) (so : Value), m = x.out.length - j ∧ j ≤ x.out.length ∧ f 1 = .pointer (some ⟨h.length, 0, none⟩) ∧ f 2 = .pointer (some ⟨H1.length, 0, none⟩) ∧ f 9 = .pointer (some ⟨H7.length, 0, none⟩) ∧ f 10 = sl kv (gen (k + x.st.length) (rk x)).length ∧ f 129 = w ∧ f 130 = I64 x.out.length ∧ f 131 = I64 j ∧ (K2 <+: K5) ∧ (Lst K5 kv (gen (k + x.st.length) (rk x)) fu) ∧ (WayX (98) .i64 2 K5 K4.length (H7.length :: kv :: E) so (wnOut x j)) ∧ (OwnB K5 H7.length [I64 x.p, I64 x.n, sv, so] true) ∧ (∀ m b, m ∈ E → K4.get m = some b → K5.get m = some b) ∧ (K4.length ≤ K5.length)) ?_ (x.out.length - 0) _ _ ⟨0, .slice none 0 0, rfl, by omega, (by first | rfl | exact f1 | (simp [upd_apply]; done)), (by first | rfl | exact f2 | (simp [upd_apply]; done)), (by first | rfl | exact f9 | (simp [upd_apply]; done)), (by first | rfl | exact f10 | (simp [upd_apply]; done)), (by first | rfl | (simp [upd_apply]; done)), (by first | rfl | (simp [upd_apply]; done)), (by first | rfl | (simp [upd_apply]; done)), p2x, ln, wo0, ⟨_, g9⟩, fun m b _ q => q, Nat.le_refl _⟩
    rintro m f K5 ⟨j, so, rfl, hj, f1, f2, f9, f10, f129, f130, f131, p2x, kn, wo, g9, hh, k45⟩
    have k5 := pre_len p2x
    have pK := pp.trans p2x
    have hbK := pre_get pK hb1
    have ltK := get_lt hbK
    have hvK := hv.pre (p13.trans pK)
    obtain ⟨e9, g9⟩ := g9
    have lt9 := get_lt g9
    have wle := wnOut_len (x := x) (i := j)
    by_cases hlt : (j : Int) < x.out.length
    · have hj : j < x.out.length := by omega
      obtain ⟨n', off', hix', hrn'⟩ := hvK.2.rdw hj
      obtain ⟨a, b, hq⟩ := all2 (hvK.2.wid hj)
      rw [hq, cel_2] at hrn'
      have s2 := pf.out2 hj hq
      have en : nOut x j = a.toNat := by unfold nOut nq; rw [hq]; rfl
      have e1 : (x.out.getD j []).getD 1 0 = b := by rw [hq]; rfl
      have eu : wnOut x (j + 1) = wnOut x j ++ [[rk x a.toNat, b]] := by
        show wnOut x j ++ [[rk x (nOut x j), (x.out.getD j []).getD 1 0]] = _
        rw [en, e1]
      have ixa := Lst.ix (n := kv) (j := a) (len := (gen (k + x.st.length) (rk x)).length) (by omega)
      have ra := kn.rd (j := a.toNat) (by omega)
      rw [nmI_at (by omega)] at ra
      ((try simp (maxSteps := 3000000) (dsimp := false) (disch := first | omega | (simp only [len_new, len_put, len_kill]; omega)) only [↓ypre, ypost, ↓reduceIte, Nat.reduceEqDiff, Nat.reduceAdd, Nat.reduceSub, Nat.reduceLeDiff, Nat.zero_add, Nat.sub_zero, ynew, f1, f2, f9, f10, f129, f130, f131, decide_eq_true hlt, hix', hrn', rd1_of g9, ixa, ra, wrap64_in]); try simp only [yback])
      generalize hHB : AH.new K5 _ = HB
      obtain ⟨hbB, pB, nB⟩ := new_facts hHB
      have kB := pre_len pB
      refine (wo.pre pB).app (q := [rk x a.toNat, b]) rfl (by omega) (by omega) (by omega) (fun r hr => by
        simp only [List.mem_cons] at hr
        rcases hr with hr | hr | hr
        · omega
        · have := kn.lt
          omega
        · have := (hE _ hr).2.1
          omega) fun so' H' l' pre' keep' wo' => ?_
      have g9' := keep' _ _ (.inr (by simp)) (pre_get pB g9)
      have lt9' := get_lt g9'
      have hk9 : ∀ m' b', m' ∈ E → K4.get m' = some b' → (H'.put H7.length ⟨[I64 x.p, I64 x.n, sv, so'], e9, false, true⟩).get m' = some b' := fun m' b' hr hc => by
        rw [get_put_ne (fun q => (hE _ hr).2.2 (by rw [← q]; simp))]
        exact keep' _ _ (.inr (List.mem_cons_of_mem _ (List.mem_cons_of_mem _ hr))) (pre_get pB (hh _ _ hr hc))
      have kn' : Lst H' kv (gen (k + x.st.length) (rk x)) fu := keep' _ _ (.inr (by simp)) (kn.pre pB)
      ((try simp (maxSteps := 3000000) (dsimp := false) (disch := first | omega | (simp only [len_new, len_put, len_kill]; omega)) only [↓ypre, ypost, ↓reduceIte, Nat.reduceEqDiff, Nat.reduceAdd, Nat.reduceSub, Nat.reduceLeDiff, Nat.zero_add, Nat.sub_zero, ynew, f1, f2, f9, f10, f129, f130, f131, wo'.one, wo'.cells, wr_of g9', wrap64_in]); try simp only [yback])
      refine InvQ_go (x.out.length - (j + 1)) (by omega) ⟨(j + 1), so', rfl, by omega, (by first | rfl | exact f1 | (simp only [upd_apply]; rfl) | (show I64 _ = _; congr 1; omega)), (by first | rfl | exact f2 | (simp only [upd_apply]; rfl) | (show I64 _ = _; congr 1; omega)), (by first | rfl | exact f9 | (simp only [upd_apply]; rfl) | (show I64 _ = _; congr 1; omega)), (by first | rfl | exact f10 | (simp only [upd_apply]; rfl) | (show I64 _ = _; congr 1; omega)), (by first | rfl | exact f129 | (simp only [upd_apply]; rfl) | (show I64 _ = _; congr 1; omega)), (by first | rfl | exact f130 | (simp only [upd_apply]; rfl) | (show I64 _ = _; congr 1; omega)), (by first | rfl | exact f131 | (simp only [upd_apply]; rfl) | (show I64 _ = _; congr 1; omega)), (pre_put (pre' _ (by omega) (p2x.trans pB)) (by omega)), (kn'.put_ne (fun e => hkv.2 e.symm)), (by rw [eu]; exact (wo'.put (.inr (by simp))).mlo (by omega)), ⟨e9, get_put_same lt9'⟩, hk9, (by rw [len_put]; omega)⟩
    have ej : j = x.out.length := by omega
    subst ej
    have hb2K := pre_get pK hb2
    have lb2 := get_lt hb2K
    obtain ⟨ws, is⟩ := hold _ hh
    ((try simp (maxSteps := 3000000) (dsimp := false) (disch := first | omega | (simp only [len_new, len_put, len_kill]; omega)) only [↓ypre, ypost, ↓reduceIte, Nat.reduceEqDiff, Nat.reduceAdd, Nat.reduceSub, Nat.reduceLeDiff, Nat.zero_add, Nat.sub_zero, ynew, f1, f2, f9, f10, f129, f130, f131, decide_eq_false hlt, rdn_of g9, wr_of hb2K, ws.one, ws.cells, wo.one, wo.cells]); try simp only [yback])
    have l13' := pre_len p13
    exact hQ sv so _ (pre_put (p13.trans pK) (by omega)) ⟨K4.length, by omega, by rw [len_put]; omega, (is.putb (by omega)).mono (by omega) (Nat.le_refl _), (wo.put (.inl (by omega))).inE.mono (Nat.le_refl _) (Nat.le_refl _)⟩
end Go.Proofs.Ytilpnbejpndgpaa.X
