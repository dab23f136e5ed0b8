/- The abstract machine's soundness, part 14: regions. -/
import Derived.Test.YtnjhhgfpclngcaaXDraw4
set_option linter.unusedVariables false
set_option linter.unusedSimpArgs false
namespace Go.Proofs.Ytnjhhgfpclngcaa.X
open Go Go.RowKit

variable {P : Program} {B : Nat} {γ γ0 : List G} {h h' h0 : AH} {w w0 : World} {f f' : Fr} {a a0 : Act} {v v' : Value} {C : FuncId → List Value → AH → Option (Value × AH)} {nt : Nat}
variable {ops : Array Oper} {F : Nat → Fr} {H : Nat → AH} {Z : Nat → XI} {fs : List Fused}

theorem filter_less {p q : Nat → Bool} {i : Nat} (hq : ∀ k, q k = (p k && !(k == i))) (hi : p i = true) : ∀ (l : List Nat), (l.filter q).length ≤ (l.filter p).length ∧ (i ∈ l → (l.filter q).length < (l.filter p).length)
  | [] => ⟨Nat.le_refl _, fun h => by simp at h⟩
  | x :: l => by
    obtain ⟨h1, h2⟩ := filter_less hq hi l
    by_cases e : x = i
    · subst e
      have e1 : q x = false := by rw [hq]; simp
      rw [List.filter_cons_of_pos hi, List.filter_cons_of_neg (by rw [e1]; decide)]
      simp only [List.length_cons]
      exact ⟨by omega, fun _ => by omega⟩
    · have e1 : q x = p x := by rw [hq]; simp [e]
      cases hp : p x with
      | true =>
        rw [List.filter_cons_of_pos hp, List.filter_cons_of_pos (by rw [e1]; exact hp)]
        simp only [List.length_cons]
        exact ⟨by omega, fun hm => by
          rcases List.mem_cons.1 hm with h | h
          · exact absurd h.symm e
          · have := h2 h; omega⟩
      | false =>
        rw [List.filter_cons_of_neg (p := q) (by rw [e1, hp]; decide), List.filter_cons_of_neg (p := p) (by rw [hp]; decide)]
        exact ⟨h1, fun hm => by
          rcases List.mem_cons.1 hm with h | h
          · exact absurd h.symm e
          · exact h2 h⟩

def Ls (L : Array Bool) : Nat → Bool := fun i => L.getD i false

theorem ready_mem {L : Array Bool} (hs : L.size = ops.size) {i : Nat} (hi : i ∈ Region.ready .any ops L) : ∃ o, ops[i]? = some o ∧ Ls L i = false ∧ i < ops.size ∧ ∀ e ∈ o.after.toList, Region.binds .any e = true → Ls L e.on = true := by
  simp only [Region.ready, List.mem_filter, List.mem_range, Bool.and_eq_true, Bool.not_eq_true'] at hi
  obtain ⟨hlt, h1, h2⟩ := hi
  refine ⟨ops[i], Array.getElem?_eq_getElem hlt, ?_, hlt, ?_⟩
  · have hl : i < L.size := by omega
    simp only [Ls, Array.getD_eq_getD_getElem?, Array.getElem?_eq_getElem hl, Option.getD_some] at h1 ⊢
    exact h1
  · rw [Array.getElem?_eq_getElem hlt] at h2
    simp only [Option.map_some, Option.getD_some] at h2
    intro e he hb
    have := (Array.all_eq_true_iff_forall_mem.1 h2) e (by simpa using he)
    simpa [hb, Ls] using this
theorem ready_nil {L : Array Bool} (hs : L.size = ops.size) (hE : edgesFine ops.toList = true) (hr : Region.ready .any ops L = []) : ∀ i, i < ops.size → Ls L i = true := by
  intro i
  induction i using Nat.strongRecOn with
  | _ i ih =>
    intro hlt
    cases hl : Ls L i with
    | true => rfl
    | false =>
      exfalso
      have hm : i ∈ Region.ready .any ops L := by
        simp only [Region.ready, List.mem_filter, List.mem_range, Bool.and_eq_true, Bool.not_eq_true']
        refine ⟨hlt, ?_, ?_⟩
        · have hl2 : i < L.size := by omega
          simp only [Ls, Array.getD_eq_getD_getElem?, Array.getElem?_eq_getElem hl2, Option.getD_some] at hl ⊢
          exact hl
        · rw [Array.getElem?_eq_getElem hlt]
          simp only [Option.map_some, Option.getD_some]
          refine Array.all_eq_true_iff_forall_mem.2 fun e he => ?_
          cases hb : Region.binds .any e with
          | false => rfl
          | true =>
            have hEi := List.all_eq_true.1 hE i (by simpa using hlt)
            rw [Array.getElem?_toList, Array.getElem?_eq_getElem hlt] at hEi
            have := List.all_eq_true.1 hEi e (by simpa using he)
            have hon : e.on < i := by simpa [hb] using this
            have := ih e.on hon (by omega)
            simpa [Ls] using this
      rw [hr] at hm
      cases hm

theorem Ls_set {L : Array Bool} (hs : L.size = ops.size) {i : Nat} (hi : i < ops.size) : Ls (L.setIfInBounds i true) = setL (Ls L) i := by
  funext k
  simp only [Ls, setL, Array.getD_eq_getD_getElem?]
  by_cases e : k = i
  · subst e
    simp [show k < L.size by omega]
  · rw [if_neg e, Array.getElem?_setIfInBounds_ne (Ne.symm e)]

theorem inv_any (hS : CSound P C) (T : RegS P C nt ops F H Z fs) (hZd : ∀ z ∈ fs, z.d < nt) {Q : Exit → Act → World → Prop}
    (hQ : ∀ a w γ p pb L, (∀ i, i < ops.size → L i = true) → Inv P B nt ops F H Z fs γ0 h0 w0 a0 L a w γ p pb → Q .normal a w) :
    ∀ (fuel : Nat) (L : Array Bool) (a : Act) (w : World) (γ : List G) (p : Nat) (pb : Nat → Nat), L.size = ops.size → ((List.range ops.size).filter fun i => !(Ls L i)).length ≤ fuel →
      Inv P B nt ops F H Z fs γ0 h0 w0 a0 (Ls L) a w γ p pb → wpAny P .any ops Q fuel L a w
  | 0, L, a, w, γ, p, pb, hs, hf, I => by
    have hall : ∀ i, i < ops.size → Ls L i = true := by
      intro i hi
      have h1 : (List.range ops.size).filter (fun i => !(Ls L i)) = [] := List.eq_nil_of_length_eq_zero (by omega)
      have := List.filter_eq_nil_iff.1 h1 i (by simpa using hi)
      simpa using this
    refine ⟨?_, hQ a w γ p pb _ hall I⟩
    refine List.eq_nil_iff_forall_not_mem.2 fun i hi => ?_
    obtain ⟨o, _, h2, h3, _⟩ := ready_mem hs hi
    rw [hall i h3] at h2; cases h2
  | fuel + 1, L, a, w, γ, p, pb, hs, hf, I => by
    refine ⟨fun hr => hQ a w γ p pb _ (ready_nil hs T.edges hr) I, fun i hi => ?_⟩
    obtain ⟨o, h1, h2, h3, h4⟩ := ready_mem hs hi
    refine I.next hS T hZd h1 h2 h4 fun a' w' γ' p' pb' I' => ?_
    rw [← Ls_set hs h3] at I'
    refine inv_any hS T hZd hQ fuel _ a' w' γ' p' pb' (by simpa using hs) ?_ I'
    have := (filter_less (p := fun k => !(Ls L k)) (q := fun k => !(Ls (L.setIfInBounds i true) k)) (i := i) (fun k => by
      rw [Ls_set hs h3]
      simp only [setL]
      by_cases e : k = i
      · simp [e]
      · simp [e]) (by simp [h2]) (List.range ops.size)).2 (by simpa using h3)
    omega

/-- The fused variables, taken in at the end. -/
theorem fused_run (T : RegS P C nt ops F H Z fs) {t : Array Value} {w : World} {pb : Nat → Nat} (hZd : ∀ z ∈ fs, z.d < nt) : ∀ (l : List Fused) (fc : Fr) (hc : AH) (γ : List G), (∀ z ∈ l, z ∈ fs) → (l.map (·.i)).Nodup → xops C (fusedOps l) fc hc = some (f', h') →
    (∀ z ∈ l, ev fc z.x = ev (F ops.size) z.x) → (∀ d, (∀ z ∈ l, z.d ≠ d) → VR γ (fc d) (t.getD d undef)) →
    (∀ z ∈ l, t.getD z.d undef = .pointer (some ⟨pb z.i, 0, none⟩) ∧ B ≤ pb z.i ∧ w0.heap.size ≤ pb z.i ∧ ¬ Own γ hc (pb z.i) ∧ ∃ cur, w.heap[pb z.i]? = some (.cells cur z.e (0, 0)) ∧ VRL γ (ev (F ops.size) z.x).cells.toList cur.toList) →
    (∀ z ∈ l, ∀ z' ∈ l, z.i ≠ z'.i → pb z.i ≠ pb z'.i) → Sim P B γ0 h0 w0 γ hc w → ∃ γ', Sim P B γ0 h0 w0 γ' h' w ∧ FR γ' f' t
  | [], fc, hc, γ, _, _, hx, _, hfr, _, _, S => by
    simp only [fusedOps, List.map_nil, xops, Option.some.injEq, Prod.mk.injEq] at hx
    obtain ⟨rfl, rfl⟩ := hx
    exact ⟨γ, S, fun d => hfr d (fun z hz => by simp at hz)⟩
  | z :: l, fc, hc, γ, hin, hnd, hx, hev, hfr, hp, hsep, S => by
    have hz := hin z (by simp)
    simp only [fusedOps, List.map_cons, xops] at hx
    split at hx
    · rename_i f1 h1 hst
      rcases xstep_some hst with ⟨_, v, hr, _, rfl⟩ | ⟨hw, _, _⟩
      · simp only [xrun, xop] at hr
        obtain ⟨⟨q1, q2⟩, q3⟩ := ite_some hr
        simp only [Prod.mk.injEq] at q3
        obtain ⟨rfl, rfl⟩ := q3
        obtain ⟨r1, r2, r3, r4, cur, r5, r6⟩ := hp z (by simp)
        rw [← hev z (by simp)] at r6
        have S1 := S.adopt r2 r4 r3 (ev fc z.x).cells.toList z.e cur r5 q2 r6
        have hpre : γ <+: γ ++ [(⟨pb z.i, 0, (ev fc z.x).cells.toList.length⟩ : G)] := List.prefix_append _ _
        have hni : ∀ z' ∈ l, z'.i ≠ z.i := fun z' hz' e => (List.nodup_cons.1 hnd).1 (List.mem_map.2 ⟨z', hz', e⟩)
        refine fused_run T hZd l _ _ _ (fun z' hz' => hin z' (by simp [hz'])) (List.nodup_cons.1 hnd).2 hx ?_ ?_ ?_ (fun z1 h1 z2 h2 => hsep z1 (by simp [h1]) z2 (by simp [h2])) S1
        · intro z' hz'
          rw [← hev z' (by simp [hz'])]
          have hz'f := hin z' (by simp [hz'])
          cases hzx : z'.x with
          | tmp y =>
            have hne : y ≠ z.d := by
              rintro rfl
              obtain ⟨_, _, oi, oj, tt, zc, p1, p2, p3, p4, p5, p6, p7, p8, p9, p10, p11, p12, _⟩ := fusedAt_some (T.fus z' hz'f)
              obtain ⟨_, _, oi', oj', tt', zc', p1', p2', p3', p4', p5', p6', p7', p8', p9', p10', p11', p12', _⟩ := fusedAt_some (T.fus z hz)
              have hlt : z'.j < ops.size := (Array.getElem?_eq_some_iff.1 p2).1
              rcases (p12' z'.j oj (by simpa using hlt) p2).1 with e | e
              · have := T.apart z' hz'f z hz (.inr (.inl e))
                exact hni z' hz' (by rw [this])
              · exact e (by simp [looks, p6, Op.operands, opdTmp, hzx])
            simp [ev, updo, upd, hne]
          | _ => rfl
        · intro d hd
          by_cases e : d = z.d
          · subst e
            have hsz : VR (γ ++ [(⟨pb z.i, 0, (ev fc z.x).cells.toList.length⟩ : G)]) (.pointer (some ⟨hc.length, 0, none⟩)) (.pointer (some ⟨pb z.i, 0, none⟩)) := new_ptr S.rel.len ⟨pb z.i, 0, (ev fc z.x).cells.toList.length⟩ rfl
            rw [r1]
            simpa [updo, upd] using hsz
          · have := (hfr d (fun z' hz' => by
              rcases List.mem_cons.1 hz' with h | h
              · subst h; exact fun e' => e e'.symm
              · exact hd z' h)).mono hpre
            simpa [updo, upd, e] using this
        · intro z' hz'
          obtain ⟨s1, s2, s3, s4, cur', s5, s6⟩ := hp z' (by simp [hz'])
          refine ⟨s1, s2, s3, ?_, cur', s5, s6.mono hpre⟩
          rintro ⟨n, blk, g, g1, g2, g3, g4⟩
          rcases get_new_cases g1 with k1 | ⟨k1, k2⟩
          · rw [List.getElem?_append_left (by rw [S.rel.len]; exact get_lt k1)] at g2
            exact s4 ⟨n, blk, g, k1, g2, g3, g4⟩
          · subst k1
            rw [← S.rel.len, List.getElem?_concat_length] at g2
            cases g2
            exact hsep z (by simp) z' (by simp [hz']) (hni z' hz').symm g4
      · simp [want] at hw
    · cases hx

end Go.Proofs.Ytnjhhgfpclngcaa.X
