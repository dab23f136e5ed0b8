/- The abstract machine's soundness, part 12: a region whose order is open: whatever order is taken, it comes to the same. -/
import Derived.Test.YtnjhhgfpclngcaaXDraw2
set_option linter.unusedVariables false
set_option linter.unusedSimpArgs false
namespace Go.Proofs.Ytnjhhgfpclngcaa.X
open Go Go.RowKit

variable {P : Program} {B : Nat} {γ γ0 : List G} {h h' h0 : AH} {w w0 : World} {f f' : Fr} {a a0 : Act} {v v' : Value} {C : FuncId → List Value → AH → Option (Value × AH)} {nt : Nat}

theorem xop_pure_h {x : XOp} (hcl : cls x < 2) (hx : xop x f h = some (v, h')) : h' = h := by
  by_cases h1 : cls x = 1
  · exact (read_block h1 hx).1
  · have h0 : cls x = 0 := by omega
    cases x <;> simp [cls] at h0
    case build z parts =>
      simp only [xop] at hx
      split at hx
      · exact ((Prod.mk.inj (ite_some hx).2).2).symm
      · cases hx
    case bin op y z => simp only [xop] at hx; obtain ⟨r, _, h2⟩ := map_some hx; exact ((Prod.mk.inj h2).2).symm
    case un op y => simp only [xop] at hx; obtain ⟨r, _, h2⟩ := map_some hx; exact ((Prod.mk.inj h2).2).symm
    case mm b y l =>
      simp only [xop] at hx
      split at hx
      · obtain ⟨r, _, h2⟩ := map_some hx; exact ((Prod.mk.inj h2).2).symm
      · cases hx
    case fail => simp [xop] at hx
    all_goals
      simp only [xop] at hx
      repeat' split at hx
      all_goals first
        | (simp only [Option.some.injEq, Prod.mk.injEq] at hx; exact hx.2.symm)
        | (simp only [reduceCtorEq] at hx; done)
        | cases hx
theorem xop_new_h {x : XOp} (hcl : cls x = 2) (hx : xop x f h = some (v, h')) : h <+: h' := by
  cases x <;> simp [cls] at hcl
  case alloc e z =>
    simp only [xop, Option.some.injEq, Prod.mk.injEq] at hx
    rw [← hx.2]; exact List.prefix_append _ _
  case box e y =>
    simp only [xop] at hx
    rw [← (Prod.mk.inj (ite_some hx).2).2]; exact List.prefix_append _ _
  case boxn e n y =>
    simp only [xop] at hx
    rw [← (Prod.mk.inj (ite_some hx).2).2]; exact List.prefix_append _ _
  case bslice e sz len z parts =>
    simp only [xop] at hx
    split at hx
    · rw [← (Prod.mk.inj (ite_some hx).2).2]; exact List.prefix_append _ _
    · cases hx
  case mks e sz bytes z len =>
    simp only [xop] at hx
    split at hx
    · rw [← (Prod.mk.inj (ite_some hx).2).2]; exact List.prefix_append _ _
    · cases hx

def ord (os : List Oper) (i j : Nat) : Prop := ordered (masks os) i j = true

structure RegS (P : Program) (C : Oracle) (nt : Nat) (ops : Array Oper) (F : Nat → Fr) (H : Nat → AH) (Z : Nat → XI) (fs : List Fused) : Prop where
  comp : ∀ (i : Nat) (o : Oper), ops[i]? = some o → (∀ z ∈ fs, z.i ≠ i ∧ z.j ≠ i) → ∃ x, compOper P nt ops o = some x ∧ (Z i).o = x.o ∧ (Z i).d = x.d ∧ (Z i).g = x.g
  nop : ∀ (i : Nat), (∃ z ∈ fs, z.i = i ∨ z.j = i) → Z i = nop
  step : ∀ (i : Nat), i < ops.size → xstep C (Z i) (F i) (H i) = some (F (i + 1), H (i + 1))
  pair : ∀ (i j : Nat) (oi oj : Oper), ops[i]? = some oi → ops[j]? = some oj → i ≠ j → ¬ ord ops.toList i j → pairOk (cls (Z i).o) (cls (Z j).o) = true ∧ ∀ d, oi.dst = some d → d ∉ looks ops oj
  quiet : ∀ (i j : Nat), i < ops.size → j < ops.size → cls (Z i).o = 3 → cls (Z j).o = 1 → ¬ ord ops.toList i j → (Z i).q = true
  uniq : ∀ (i j : Nat) (oi oj : Oper) (d : Nat), ops[i]? = some oi → ops[j]? = some oj → oi.dst = some d → oj.dst = some d → i = j
  edges : edgesFine ops.toList = true
  fus : ∀ z ∈ fs, fusedAt P ops ops.toList z.i z.j = some z
  apart : ∀ z ∈ fs, ∀ z' ∈ fs, (z.i = z'.i ∨ z.j = z'.j ∨ z.i = z'.j) → z = z'
  fine : ∀ z ∈ fs, (ev (F ops.size) z.x).cells.toList.length = z.n ∧ (ev (F ops.size) z.x).cells.toList.all isOne = true

section
variable {ops : Array Oper} {F : Nat → Fr} {H : Nat → AH} {Z : Nat → XI} {fs : List Fused}

theorem RegS.F_step (T : RegS P C nt ops F H Z fs) {k : Nat} (hk : k < ops.size) {d : Nat} (hd : (Z k).d ≠ some d) : F (k + 1) d = F k d := by
  rcases xstep_some (T.step k hk) with ⟨_, v, _, _, e⟩ | ⟨_, e, _⟩ <;> rw [e] <;>
  · cases hz : (Z k).d with
    | none => rfl
    | some d' =>
      have : d ≠ d' := fun e => hd (by rw [hz, e])
      simp [updo, upd, this]
theorem RegS.F_const (T : RegS P C nt ops F H Z fs) {d : Nat} : ∀ (n i : Nat), i + n ≤ ops.size → (∀ k, i ≤ k → k < i + n → (Z k).d ≠ some d) → F (i + n) d = F i d
  | 0, i, _, _ => rfl
  | n + 1, i, hn, hk => by
    rw [← Nat.add_assoc, T.F_step (by omega) (hk (i + n) (by omega) (by omega))]
    exact T.F_const n i (by omega) (fun k h1 h2 => hk k h1 (by omega))
theorem RegS.H_step (T : RegS P C nt ops F H Z fs) {k : Nat} (hk : k < ops.size) (hc : cls (Z k).o < 2) : H (k + 1) = H k := by
  rcases xstep_some (T.step k hk) with ⟨_, v, hr, _, _⟩ | ⟨_, _, e⟩
  · rw [xrun_other (by omega)] at hr
    exact xop_pure_h hc hr
  · exact e
theorem RegS.H_const (T : RegS P C nt ops F H Z fs) : ∀ (n i : Nat), i + n ≤ ops.size → (∀ k, i ≤ k → k < i + n → cls (Z k).o < 2) → H (i + n) = H i
  | 0, i, _, _ => rfl
  | n + 1, i, hn, hk => by
    rw [← Nat.add_assoc, T.H_step (by omega) (hk (i + n) (by omega) (by omega))]
    exact T.H_const n i (by omega) (fun k h1 h2 => hk k h1 (by omega))
theorem RegS.H_pre (T : RegS P C nt ops F H Z fs) : ∀ (n i : Nat), i + n ≤ ops.size → (∀ k, i ≤ k → k < i + n → cls (Z k).o < 2 ∨ cls (Z k).o = 2 ∨ (cls (Z k).o = 3 ∧ (Z k).q = true)) → H i <+: H (i + n)
  | 0, i, _, _ => List.prefix_refl _
  | n + 1, i, hn, hk => by
    refine (T.H_pre n i (by omega) (fun k h1 h2 => hk k h1 (by omega))).trans ?_
    rw [← Nat.add_assoc]
    rcases hk (i + n) (by omega) (by omega) with h1 | h1 | ⟨h1, h2⟩
    · rw [T.H_step (by omega) h1]; exact List.prefix_refl _
    · rcases xstep_some (T.step (i + n) (by omega)) with ⟨_, v, hr, _, _⟩ | ⟨_, _, e⟩
      · rw [xrun_other (by omega)] at hr
        exact xop_new_h h1 hr
      · rw [e]; exact List.prefix_refl _
    · rcases xstep_some (T.step (i + n) (by omega)) with ⟨_, v, _, hq, _⟩ | ⟨_, _, e⟩
      · exact hq h2
      · rw [e]; exact List.prefix_refl _

theorem prefix_get {h1 h2 : AH} (hp : h1 <+: h2) {n : Nat} (hn : n < h1.length) : h2.get n = h1.get n := by
  obtain ⟨t, rfl⟩ := hp
  unfold AH.get
  rw [List.getElem?_append_left hn]

/-- What holds while some of the operations are done. -/
structure Inv (P : Program) (B nt : Nat) (ops : Array Oper) (F : Nat → Fr) (H : Nat → AH) (Z : Nat → XI) (fs : List Fused) (γ0 : List G) (h0 : AH) (w0 : World) (a0 : Act)
    (L : Nat → Bool) (a : Act) (w : World) (γ : List G) (p : Nat) (pb : Nat → Nat) : Prop where
  size : nt ≤ a.tmps.size
  defers : a.defers = a0.defers
  closed : Closed ops.toList L
  plt : p ≤ ops.size
  chain : ∀ (i : Nat), i < ops.size → 2 ≤ cls (Z i).o → (L i = true ↔ i < p)
  sim : Sim P B γ0 h0 w0 γ (H p) w
  done : ∀ (d : Nat), (∀ z ∈ fs, z.d ≠ d) → ∀ (i : Nat) (o : Oper), ops[i]? = some o → o.dst = some d → L i = true → VR γ (F ops.size d) (a.tmps.getD d undef)
  todo : ∀ (d : Nat), (∀ z ∈ fs, z.d ≠ d) → (∀ (i : Nat) (o : Oper), ops[i]? = some o → o.dst = some d → L i = false) → VR γ (F 0 d) (a.tmps.getD d undef)
  pend : ∀ z ∈ fs, L z.i = true → a.tmps.getD z.d undef = .pointer (some ⟨pb z.i, 0, none⟩) ∧ B ≤ pb z.i ∧ w0.heap.size ≤ pb z.i ∧ pb z.i < w.heap.size ∧ ¬ Own γ (H p) (pb z.i) ∧
    ∃ cur, w.heap[pb z.i]? = some (.cells cur z.e (0, 0)) ∧ cur.size = z.n ∧ (L z.j = true → VRL γ (ev (F ops.size) z.x).cells.toList cur.toList)
  sep : ∀ z ∈ fs, ∀ z' ∈ fs, L z.i = true → L z'.i = true → z.i ≠ z'.i → pb z.i ≠ pb z'.i

def setL (L : Nat → Bool) (i : Nat) : Nat → Bool := fun k => if k = i then true else L k
theorem setL_self (L : Nat → Bool) (i : Nat) : setL L i i = true := by simp [setL]
theorem setL_ne (L : Nat → Bool) {i k : Nat} (hk : k ≠ i) : setL L i k = L k := by simp [setL, hk]
theorem setL_mono {L : Nat → Bool} {i k : Nat} (hk : L k = true) : setL L i k = true := by unfold setL; split <;> first | rfl | exact hk

theorem Closed.set {os : List Oper} {L : Nat → Bool} (hL : Closed os L) {i : Nat} {o : Oper} (ho : os[i]? = some o) (he : ∀ e ∈ o.after.toList, Region.binds .any e = true → L e.on = true) : Closed os (setL L i) := by
  intro k o' hk hl e hm hb
  by_cases hki : k = i
  · subst hki
    rw [ho] at hk; cases hk
    exact setL_mono (he e hm hb)
  · rw [setL_ne L hki] at hl
    exact setL_mono (hL k o' hk hl e hm hb)

/-- Who is ready stands behind all that come before it, and before all that come behind it. -/
theorem ready_before {L : Nat → Bool} (hE : edgesFine ops.toList = true) (hL : Closed ops.toList L) {i : Nat} {o : Oper} (ho : ops[i]? = some o) (hi : L i = false)
    (he : ∀ e ∈ o.after.toList, Region.binds .any e = true → L e.on = true) {k : Nat} {o' : Oper} (hk : ops[k]? = some o') (hne : k ≠ i) (hord : ord ops.toList k i ∨ ord ops.toList i k) : L k = true ↔ k < i := by
  have hoi : ops.toList[i]? = some o := by rw [Array.getElem?_toList]; exact ho
  have hok : ops.toList[k]? = some o' := by rw [Array.getElem?_toList]; exact hk
  have h1 : k < i → L k = true := by
    intro hlt
    refine mask_listed hE hL i o hoi he k ?_
    rcases hord with h | h
    · unfold ord ordered at h; rwa [if_pos hlt] at h
    · unfold ord ordered at h; rwa [if_neg (by omega)] at h
  refine ⟨fun hl => ?_, h1⟩
  rcases Nat.lt_or_ge k i with h | h
  · exact h
  · exfalso
    have hlt : i < k := by omega
    have : L i = true := by
      refine mask_listed hE hL k o' hok (hL k o' hok hl) i ?_
      rcases hord with h | h
      · unfold ord ordered at h; rwa [if_neg (by omega)] at h
      · unfold ord ordered at h; rwa [if_pos hlt] at h
    rw [hi] at this; cases this

theorem RegS.dstZ (T : RegS P C nt ops F H Z fs) {i : Nat} {o : Oper} (ho : ops[i]? = some o) {d : Nat} (hd : (Z i).d = some d) : o.dst = some d ∧ ∀ z ∈ fs, z.d ≠ d := by
  by_cases hf : ∃ z ∈ fs, z.i = i ∨ z.j = i
  · rw [T.nop i hf] at hd; cases hd
  · have hnf : ∀ z ∈ fs, z.i ≠ i ∧ z.j ≠ i := fun z hz => ⟨fun e => hf ⟨z, hz, .inl e⟩, fun e => hf ⟨z, hz, .inr e⟩⟩
    obtain ⟨x, h1, _, h2, _⟩ := T.comp i o ho hnf
    obtain ⟨_, _, h3, _⟩ := compOper_some h1
    rw [h2, h3] at hd
    refine ⟨hd, fun z hz e => ?_⟩
    obtain ⟨_, _, oi, oj, t, zc, q1, q2, q3, q4, _⟩ := fusedAt_some (T.fus z hz)
    exact (hnf z hz).1 (T.uniq z.i i oi o d q1 ho (by rw [q4, e]) hd)
theorem RegS.dstZ' (T : RegS P C nt ops F H Z fs) {i : Nat} {o : Oper} (ho : ops[i]? = some o) {d : Nat} (hd : o.dst = some d) (hz : ∀ z ∈ fs, z.d ≠ d) : (Z i).d = some d := by
  have hnf : ∀ z ∈ fs, z.i ≠ i ∧ z.j ≠ i := by
    intro z hzm
    obtain ⟨_, _, oi, oj, t, zc, q1, q2, q3, q4, q5, q6, q7, _⟩ := fusedAt_some (T.fus z hzm)
    refine ⟨fun e => ?_, fun e => ?_⟩
    · rw [e, ho] at q1; cases q1
      rw [q4] at hd; cases hd
      exact hz z hzm rfl
    · rw [e, ho] at q2; cases q2
      rw [q7] at hd; cases hd
  obtain ⟨x, h1, _, h2, _⟩ := T.comp i o ho hnf
  obtain ⟨_, _, h3, _⟩ := compOper_some h1
  rw [h2, h3]; exact hd

/-- What a ready operation sees in a slot is what the text's order shows it. -/
theorem Inv.slot (T : RegS P C nt ops F H Z fs) {L : Nat → Bool} {p : Nat} {pb : Nat → Nat} (I : Inv P B nt ops F H Z fs γ0 h0 w0 a0 L a w γ p pb) {i : Nat} {o : Oper} (ho : ops[i]? = some o) (hi : L i = false)
    (he : ∀ e ∈ o.after.toList, Region.binds .any e = true → L e.on = true) {d : Nat} (hd : d ∈ looks ops o) (hnf : ∀ z ∈ fs, z.d ≠ d) : VR γ (F i d) (a.tmps.getD d undef) := by
  have hilt : i < ops.size := (Array.getElem?_eq_some_iff.1 ho).1
  by_cases hw : ∃ (k : Nat) (o' : Oper), ops[k]? = some o' ∧ o'.dst = some d
  · obtain ⟨k, o', hk, hkd⟩ := hw
    have hklt : k < ops.size := (Array.getElem?_eq_some_iff.1 hk).1
    have honly : ∀ m, m < ops.size → m ≠ k → (Z m).d ≠ some d := by
      intro m hm hne hz
      have hom : ops[m]? = some ops[m] := Array.getElem?_eq_getElem hm
      exact hne (T.uniq m k _ o' d hom hk (T.dstZ hom hz).1 hkd)
    by_cases hki : k = i
    · subst hki
      rw [show F k d = F 0 d from by
        have := T.F_const (d := d) k 0 (by omega) (fun m _ h2 => honly m (by omega) (by omega))
        rwa [Nat.zero_add] at this]
      refine I.todo d hnf (fun m om hm hmd => ?_)
      rw [T.uniq m k om o' d hm hk hmd hkd]; exact hi
    · have hord : ord ops.toList k i := by
        by_cases h1 : ord ops.toList k i
        · exact h1
        · exact absurd hd ((T.pair k i o' o hk ho hki h1).2 d hkd)
      have hiff := ready_before T.edges I.closed ho hi he hk hki (.inl hord)
      rcases Nat.lt_or_gt_of_ne hki with hlt | hgt
      · have := I.done d hnf k o' hk hkd (hiff.2 hlt)
        have e : F ops.size d = F i d := by
          have := T.F_const (d := d) (ops.size - i) i (by omega) (fun m h1 h2 => honly m (by omega) (by omega))
          rwa [show i + (ops.size - i) = ops.size by omega] at this
        rw [← e]; exact this
      · have hlk : L k = false := by
          cases hl : L k with
          | false => rfl
          | true => have := hiff.1 hl; omega
        rw [show F i d = F 0 d from by
          have := T.F_const (d := d) i 0 (by omega) (fun m _ h2 => honly m (by omega) (by omega))
          rwa [Nat.zero_add] at this]
        refine I.todo d hnf (fun m om hm hmd => ?_)
        rw [T.uniq m k om o' d hm hk hmd hkd]; exact hlk
  · have honly : ∀ m, m < ops.size → (Z m).d ≠ some d := by
      intro m hm hz
      have hom : ops[m]? = some ops[m] := Array.getElem?_eq_getElem hm
      exact hw ⟨m, _, hom, (T.dstZ hom hz).1⟩
    rw [show F i d = F 0 d from by
      have := T.F_const (d := d) i 0 (by omega) (fun m _ h2 => honly m (by omega))
      rwa [Nat.zero_add] at this]
    exact I.todo d hnf (fun m om hm hmd => absurd ⟨m, om, hm, hmd⟩ hw)

end
end Go.Proofs.Ytnjhhgfpclngcaa.X
