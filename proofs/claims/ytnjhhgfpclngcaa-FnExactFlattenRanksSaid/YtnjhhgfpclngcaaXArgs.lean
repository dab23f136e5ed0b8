/- From the readings of a row's arguments to the abstract machine's first heap, and back to the row. -/
import Derived.Test.YtnjhhgfpclngcaaXSimp
import Derived.Deep.Slices
import Derived.WideKeyArgs
import Derived.ChangeOld
import Derived.ChangeArms
import Derived.OpenShut
set_option linter.unusedVariables false
set_option linter.unusedSimpArgs false
namespace Go.Proofs.Ytnjhhgfpclngcaa.X
open Go Go.RowKit Go.ChangeShapes Go.WideShapes Go.Deep

/-- A heap of blocks that are read only, each in the world's memory. -/
structure Adm (P : Program) (W : World) (γ : List G) (h : AH) : Prop where
  rel : Rel P W.heap.size γ h W
  ro : ∀ n b, h.get n = some b → b.ro = true

theorem Adm.nil (P : Program) (W : World) : Adm P W [] [] where
  rel := {
    len := rfl
    cell := fun n b g h => by simp [AH.get] at h
    rw := fun n b g h => by simp [AH.get] at h
    ro := fun n b g h => by simp [AH.get] at h
    inj := fun n m bn bm g g' h => by simp [AH.get] at h
    base := Nat.le_refl _ }
  ro := fun n b h => by simp [AH.get] at h

theorem Adm.new {P : Program} {W : World} {γ : List G} {h : AH} (A : Adm P W γ h) {g : G} {cs : List Value} {e : TypeId} (hb : g.b < W.heap.size)
    (hc : ∀ j v, cs[j]? = some v → isOne v = true ∧ ∃ v', W.cell? ⟨g.b, g.o + j, none⟩ = some v' ∧ VR γ v v') : Adm P W (γ ++ [g]) (h.new ⟨cs, e, true, false⟩) := by
  have hl := A.rel.len
  have hp : γ <+: γ ++ [g] := List.prefix_append _ _
  have old : ∀ {n : Nat} {g' : G}, n < h.length → (γ ++ [g])[n]? = some g' → γ[n]? = some g' := fun hn hg => by
    rw [List.getElem?_append_left (by omega)] at hg
    exact hg
  have new : ∀ {g' : G}, (γ ++ [g])[h.length]? = some g' → g' = g := fun hg => by
    rw [← hl] at hg
    simpa using hg.symm
  refine ⟨⟨by simp [len_new, hl], ?_, ?_, ?_, ?_, Nat.le_refl _⟩, ?_⟩
  · intro n b g' hb' hg' j v hv
    rcases get_new_cases hb' with hb' | ⟨rfl, rfl⟩
    · obtain ⟨q1, v', q2, q3⟩ := A.rel.cell n b g' hb' (old (get_lt hb') hg') j v hv
      exact ⟨q1, v', q2, q3.mono hp⟩
    · obtain rfl := new hg'
      obtain ⟨q1, v', q2, q3⟩ := hc j v hv
      exact ⟨q1, v', q2, q3.mono hp⟩
  · intro n b g' hb' hg' hro
    rcases get_new_cases hb' with hb' | ⟨rfl, rfl⟩
    · rw [A.ro n b hb'] at hro
      cases hro
    · cases hro
  · intro n b g' hb' hg' hro
    rcases get_new_cases hb' with hb' | ⟨rfl, rfl⟩
    · exact A.rel.ro n b g' hb' (old (get_lt hb') hg') hro
    · obtain rfl := new hg'
      exact hb
  · intro n m bn bm g1 g2 h1 h2 h3 h4 hro
    rcases get_new_cases h1 with hb' | ⟨rfl, rfl⟩
    · rw [A.ro n bn hb'] at hro
      cases hro
    · cases hro
  · intro n b hb'
    rcases get_new_cases hb' with hb' | ⟨rfl, rfl⟩
    · exact A.ro n b hb'
    · rfl

section
variable {H : Type} {enc : TypeId × Value → H} {P : Program} {W : World}

theorem add_off (a : Addr) (ha : a.spot = none) (i : Nat) : a.add i = ⟨a.block, a.off + i, none⟩ := by
  unfold Addr.add
  split
  · rename_i h0
    subst h0
    obtain ⟨b, o, s⟩ := a
    simp at ha
    subst ha
    rfl
  · rfl

theorem adm_ints {γ : List G} {h : AH} (A : Adm P W γ h) {t e : TypeId} {n : Nat} {cs : List Value} {x : DataW H × List MemPlace} (ht : P.underlying t = some (.slice e)) (he : P.underlying e = some (.int .i64))
    (hc : P.cellsOf e = 1) (hx : DataW.trod enc P W 0 (fun _ => true) true n t cs = some x) :
    ∃ v' v ns γ' h', cs = [v'] ∧ γ <+: γ' ∧ h <+: h' ∧ Adm P W γ' h' ∧ VR γ' v v' ∧ Ints h' v ns ∧ ns.length ≤ maxLen := by
  rcases open_slice1 ht hc hx with ⟨rfl, _⟩ | ⟨a, len, cap, m, n', V, D, Pl, rfl, hb, hl, hm, hmm, _, hcell⟩
  · exact ⟨_, .slice none 0 0, [], γ, h, rfl, List.prefix_refl _, List.prefix_refl _, A, .nils, .inl ⟨rfl, 0, by omega, rfl⟩, Nat.zero_le _⟩
  · by_cases h0 : len = 0
    · subst h0
      exact ⟨_, .slice none 0 1, [], γ, h, rfl, List.prefix_refl _, List.prefix_refl _, A, .emp _ _, .inl ⟨rfl, 1, by omega, rfl⟩, Nat.zero_le _⟩
    · have hcell : ∀ i, i < cap → W.cell? (a.add i) = some (V i) ∧ DataW.trod enc P W 0 (fun _ => true) true n' e [V i] = some (D i, Pl i) := fun i hi => hcell i (by rw [show m = cap from hmm]; exact hi)
      have hz := (hcell 0 (by omega)).1
      have hsp : a.spot = none := by
        simp only [Addr.add, if_true] at hz
        unfold World.cell? at hz
        split at hz
        · split at hz
          · cases hz
          · rename_i hs
            simpa using hs
        · cases hz
      have hbl : a.block < W.heap.size := by
        have := World.block_lt_of_cell? W _ hz
        simpa [Addr.add] using this
      have hV : ∀ i, i < len → ∃ k, V i = .int .i64 k := fun i hi => by
        obtain ⟨k, hk, _⟩ := DataW.trod_int he (hcell i (by omega)).2
        exact ⟨k, by simpa using hk⟩
      let ns : List Int := (List.range len).map fun i => match V i with
        | .int _ k => k
        | _ => 0
      have hns : ns.length = len := by simp [ns]
      have hget : ∀ i, i < len → ns.getD i 0 = (match V i with
        | .int _ k => k
        | _ => 0) := fun i hi => by simp [ns, List.getD_eq_getElem?_getD, List.getElem?_map, List.getElem?_range hi]
      refine ⟨_, .slice (some ⟨h.length, 0, none⟩) ns.length 1, ns, γ ++ [⟨a.block, a.off, cap⟩], h.new ⟨ns.map (Value.int .i64), e, true, false⟩, rfl, List.prefix_append _ _, pre_new (List.prefix_refl _), ?_, ?_,
        Ints.own get_new_same rfl, by rw [hns]; omega⟩
      · refine A.new hbl fun j v hv => ?_
        rw [List.getElem?_map] at hv
        obtain ⟨k, hk, rfl⟩ := Option.map_eq_some_iff.1 hv
        have hj : j < len := by rw [← hns]; exact (List.getElem?_eq_some_iff.1 hk).1
        obtain ⟨k', hk'⟩ := hV j hj
        have hg := hget j hj
        rw [List.getD_eq_getElem?_getD, hk, hk'] at hg
        simp only [Option.getD_some] at hg
        subst hg
        refine ⟨rfl, _, ?_, .int _ _⟩
        have := (hcell j (by omega)).1
        rw [add_off a hsp, hk'] at this
        exact this
      · have := VR.slc (γ := γ ++ [⟨a.block, a.off, cap⟩]) h.length 0 ns.length 1 ⟨a.block, a.off, cap⟩ (by rw [← A.rel.len]; simp) (by omega) (by simp only; omega)
        have e1 : (some a : Option Addr) = some ⟨a.block, a.off + 0, none⟩ := by
          obtain ⟨b, o, s⟩ := a
          simp at hsp
          subst hsp
          rfl
        rw [e1]
        have e2 : (cap - 0) / 1 = cap := by simp
        rw [← hns, show (Value.slice (some ⟨a.block, a.off + 0, none⟩) ns.length cap) = Value.slice (some ⟨a.block, a.off + 0, none⟩) ns.length ((cap - 0) / 1) by rw [e2]]
        exact this

theorem trod_field {t : TypeId} {fs : Array Field} {n : Nat} {cs : List Value} {x : DataW H × List MemPlace} (hs : P.underlying t = some (.struct fs)) (hx : DataW.trod enc P W 0 (fun _ => true) true n t cs = some x)
    {i : Nat} {f : Field} (hf : fs[i]? = some f) : ∃ m y, DataW.trod enc P W 0 (fun _ => true) true m f.type ((cs.drop f.offset).take (P.cellsOf f.type)) = some y := by
  obtain ⟨xs, m, _, _, _, hl, hall⟩ := DataW.trod_struct hs hx
  have hi : i < xs.length := by
    rw [hl]
    exact (Array.getElem?_eq_some_iff.1 hf).1
  exact ⟨m, xs[i], by rw [hall i f hf, List.getElem?_eq_getElem hi]⟩
theorem trod_cells {t : TypeId} {fs : Array Field} {n : Nat} {cs : List Value} {x : DataW H × List MemPlace} (hs : P.underlying t = some (.struct fs)) (hx : DataW.trod enc P W 0 (fun _ => true) true n t cs = some x) : cs.length = P.cellsOf t := by
  obtain ⟨xs, m, _, _, hl, _, _⟩ := DataW.trod_struct hs hx
  exact hl
theorem trod_field_int {t : TypeId} {fs : Array Field} {n : Nat} {cs : List Value} {x : DataW H × List MemPlace} (hs : P.underlying t = some (.struct fs)) (hx : DataW.trod enc P W 0 (fun _ => true) true n t cs = some x)
    {i : Nat} {f : Field} (hf : fs[i]? = some f) (ht : P.underlying f.type = some (.int .i64)) : ∃ k, (cs.drop f.offset).take (P.cellsOf f.type) = [I64 k] ∧ (Lit.int .i64 k).wf = true := by
  obtain ⟨m, y, hy⟩ := trod_field hs hx hf
  obtain ⟨k, h1, _, h2⟩ := DataW.trod_int ht hy
  exact ⟨k, h1, h2⟩
theorem agg_of_cells {v : Value} {l : List Value} (h : v.cells.toList = l) (h2 : 2 ≤ l.length) : v = .agg l.toArray := by
  cases v with
  | agg cs =>
    simp only [Value.cells] at h
    rw [← h]
  | _ =>
    simp only [Value.cells] at h
    rw [← h] at h2
    simp at h2

/-- Four whole numbers and a list of them, side by side. -/
theorem adm_ints4 {γ : List G} {h : AH} (A : Adm P W γ h) {t e : TypeId} {f0 f1 f2 f3 f4 : Field} {v : Value} {d : DataW H} {ps : List MemPlace} (hs : P.underlying t = some (.struct #[f0, f1, f2, f3, f4]))
    (hct : P.cellsOf t = 5) (ho : f0.offset = 0 ∧ f1.offset = 1 ∧ f2.offset = 2 ∧ f3.offset = 3 ∧ f4.offset = 4)
    (hi : P.underlying f0.type = some (.int .i64) ∧ P.underlying f1.type = some (.int .i64) ∧ P.underlying f2.type = some (.int .i64) ∧ P.underlying f3.type = some (.int .i64))
    (hc : P.cellsOf f0.type = 1 ∧ P.cellsOf f1.type = 1 ∧ P.cellsOf f2.type = 1 ∧ P.cellsOf f3.type = 1 ∧ P.cellsOf f4.type = 1)
    (ht : P.underlying f4.type = some (.slice e)) (he : P.underlying e = some (.int .i64)) (hce : P.cellsOf e = 1) (hx : DataW.Trod enc P W 0 (fun _ => true) true t v d ps) :
    ∃ a b c d ns v' γ' h', γ <+: γ' ∧ h <+: h' ∧ Adm P W γ' h' ∧ VR γ' (.agg #[I64 a, I64 b, I64 c, I64 d, v']) v ∧ Ints h' v' ns ∧ ns.length ≤ maxLen := by
  obtain ⟨n, hx⟩ := hx
  have hl := trod_cells hs hx
  rw [hct] at hl
  obtain ⟨a, ha, _⟩ := trod_field_int hs hx (i := 0) (f := f0) rfl hi.1
  obtain ⟨b, hb, _⟩ := trod_field_int hs hx (i := 1) (f := f1) rfl hi.2.1
  obtain ⟨c, hcc, _⟩ := trod_field_int hs hx (i := 2) (f := f2) rfl hi.2.2.1
  obtain ⟨d, hd, _⟩ := trod_field_int hs hx (i := 3) (f := f3) rfl hi.2.2.2
  obtain ⟨m, y, hy⟩ := trod_field hs hx (i := 4) (f := f4) rfl
  obtain ⟨v', u, ns, γ', h', e1, q1, q2, q3, q4, q5, q6⟩ := adm_ints A ht he hce hy
  generalize hcs : v.cells.toList = cs at *
  rw [ho.1, hc.1] at ha
  rw [ho.2.1, hc.2.1] at hb
  rw [ho.2.2.1, hc.2.2.1] at hcc
  rw [ho.2.2.2.1, hc.2.2.2.1] at hd
  rw [ho.2.2.2.2, hc.2.2.2.2] at e1
  obtain ⟨c0, c1, c2, c3, c4, rfl⟩ : ∃ c0 c1 c2 c3 c4, cs = [c0, c1, c2, c3, c4] := by
    match cs, hl with
    | [c0, c1, c2, c3, c4], _ => exact ⟨_, _, _, _, _, rfl⟩
  simp at ha hb hcc hd e1
  subst ha hb hcc hd e1
  refine ⟨a, b, c, d, ns, u, γ', h', q1, q2, q3, ?_, q5, q6⟩
  rw [agg_of_cells hcs (by simp)]
  exact VR.aggL (VRL.cons (.int _ _) (VRL.cons (.int _ _) (VRL.cons (.int _ _) (VRL.cons (.int _ _) (VRL.cons q4 (VRL.nil _))))))

def tyInt (P : Program) (t : TypeId) : Bool := match P.underlying t with
  | some (.int .i64) => true
  | _ => false
def tySlice (P : Program) (t e : TypeId) : Bool := match P.underlying t with
  | some (.slice e') => e' == e
  | _ => false
theorem tyInt_eq {t : TypeId} (h : tyInt P t = true) : P.underlying t = some (.int .i64) := by
  unfold tyInt at h
  split at h
  · assumption
  · cases h
theorem tySlice_eq {t e : TypeId} (h : tySlice P t e = true) : P.underlying t = some (.slice e) := by
  unfold tySlice at h
  split at h
  · rename_i e' he
    have : e' = e := by simpa using h
    rw [he, this]
  · cases h
/-- .. the shape looked up by the kernel. -/
def isInts4 (P : Program) (t e : TypeId) : Bool := match P.underlying t with
  | some (.struct fs) => match fs.toList with
    | [f0, f1, f2, f3, f4] => P.cellsOf t == 5 && f0.offset == 0 && f1.offset == 1 && f2.offset == 2 && f3.offset == 3 && f4.offset == 4 &&
        [f0, f1, f2, f3].all (fun f => tyInt P f.type && P.cellsOf f.type == 1) && P.cellsOf f4.type == 1 && tySlice P f4.type e &&
        tyInt P e && P.cellsOf e == 1
    | _ => false
  | _ => false
theorem adm_tensor {γ : List G} {h : AH} (A : Adm P W γ h) {t : TypeId} (e : TypeId) (hk : isInts4 P t e = true) {v : Value} {d : DataW H} {ps : List MemPlace} (hx : DataW.Trod enc P W 0 (fun _ => true) true t v d ps) :
    ∃ a b c d ns v' γ' h', γ <+: γ' ∧ h <+: h' ∧ Adm P W γ' h' ∧ VR γ' (.agg #[I64 a, I64 b, I64 c, I64 d, v']) v ∧ Ints h' v' ns ∧ ns.length ≤ maxLen := by
  unfold isInts4 at hk
  split at hk
  · rename_i fs hs
    split at hk
    · rename_i f0 f1 f2 f3 f4 hf
      have hfs : fs = #[f0, f1, f2, f3, f4] := by
        rw [← hf]
      subst hfs
      simp only [List.all_cons, List.all_nil, Bool.and_true, Bool.and_eq_true, beq_iff_eq] at hk
      obtain ⟨⟨⟨⟨⟨⟨⟨⟨⟨⟨k0, k1⟩, k2⟩, k3⟩, k4⟩, k5⟩, ⟨i0, c0⟩, ⟨i1, c1⟩, ⟨i2, c2⟩, ⟨i3, c3⟩⟩, c4⟩, s4⟩, ie⟩, ce⟩ := hk
      exact adm_ints4 A hs k0 ⟨k1, k2, k3, k4, k5⟩ ⟨tyInt_eq i0, tyInt_eq i1, tyInt_eq i2, tyInt_eq i3⟩ ⟨c0, c1, c2, c3, c4⟩ (tySlice_eq s4) (tyInt_eq ie) ce hx
    · cases hk
  · cases hk

/-- Arguments read again in a world that kept what lay below. -/
theorem stays_all (hl : laidOutB P = true) {W W' : World} (bel : Below W.heap.size W W') : ∀ {ts : List TypeId} {vs : List Value} {ds : List (DataW H)} {ps : List MemPlace},
    (∀ t ∈ ts, P.readableRec t = true ∧ t < P.types.size) → DataW.TrodAll enc P W 0 (fun _ => true) true ts vs ds ps → DataW.TrodAll enc P W' 0 (fun b => decide (b < W.heap.size)) true ts vs ds ps
  | [], [], [], _, _, h => h
  | _ :: _, _ :: _, _ :: _, _, ht, ⟨p, q, h1, h2, e⟩ => by
    have hlt : ∀ r ∈ p, r.block < W.heap.size := by
      have hall : DataW.TrodAll enc P W 0 (fun _ => true) true [_] [_] [_] p := trodAll_mk1 h1
      exact hall.lt
    refine ⟨p, q, Go.WideElems.Trod_stays hl (ht _ (List.mem_cons.2 (.inl rfl))).1 (ht _ (List.mem_cons.2 (.inl rfl))).2 h1 (fun r hr => bel.same (hlt r hr)) (fun r hr => by simpa using hlt r hr), ?_, e⟩
    exact stays_all hl bel (fun t ht' => ht t (List.mem_cons.2 (.inr ht'))) h2

/-- What the abstract machine reaches, the program reaches. -/
theorem calls_of_WF {S : XS} (hm : P.follows .mixedOrders = true) (hE : ESound P S.E) (hT : TSound P S.T) {g : FuncId} {args args' : List Value} {γ : List G} {h : AH} {W : World} {Q : Value → AH → Prop}
    (A : Adm P W γ h) (hv : VRL γ args args') (hw : WF S g args h Q) :
    Calls P g args'.toArray W (fun e W' => ∃ v v' γ' h', e = .returned v' ∧ VR γ' v v' ∧ Q v h' ∧ Below W.heap.size W W') := by
  obtain ⟨k, v, h', h1, h2⟩ := hw
  have := (xcall_sound hm hE hT k g args h v h' h1).2 W.heap.size γ W args' A.rel hv
  refine this.mono fun e W' ⟨γ', v', q1, q2, q3⟩ => ⟨v, v', γ', h', q1, q2, h2, ?_⟩
  refine ⟨q3.os, q3.tape, q3.output, q3.size, fun b hb => q3.frame b hb fun ⟨n, blk, g, o1, o2, o3, o4⟩ => ?_⟩
  rw [A.ro n blk o1] at o3
  cases o3
end
end Go.Proofs.Ytnjhhgfpclngcaa.X
