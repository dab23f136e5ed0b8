/- The abstract machine's soundness, part 8: the operations that make blocks, write and append. -/
import Derived.Test.YtnjhhgfpclngcaaXRead
import Derived.IntWalk
set_option linter.unusedVariables false
set_option linter.unusedSimpArgs false
namespace Go.Proofs.Ytnjhhgfpclngcaa.X
open Go Go.RowKit

variable {P : Program} {B : Nat} {γ : List G} {h h' : AH} {w : World} {f : Fr} {a : Act} {v : Value}

def OpOk (P : Program) (B : Nat) (γ : List G) (h : AH) (w : World) (a : Act) (o : Oper) (v : Value) (h' : AH) : Prop :=
  ∃ γ' nx v' w', (execOp a.eval o).run P w = .ok nx w' ∧ nv nx = some v' ∧ VR γ' v v' ∧ Sim P B γ h w γ' h' w'

theorem zrep_length (z : List Value) : ∀ n, (zrep n z).length = n * z.length
  | 0 => by simp [zrep]
  | n + 1 => by simp [zrep, zrep_length z n, Nat.succ_mul, Nat.add_comm]
theorem zrep_get (z : List Value) : ∀ (n j : Nat), j < n * z.length → (zrep n z)[j]? = z[j % z.length]?
  | 0, j, hj => by simp at hj
  | n + 1, j, hj => by
    simp only [zrep]
    by_cases h1 : j < z.length
    · rw [List.getElem?_append_left h1, Nat.mod_eq_of_lt h1]
    · rw [List.getElem?_append_right (by omega), zrep_get z n (j - z.length) (by rw [Nat.succ_mul] at hj; omega)]
      congr 1
      conv => rhs; rw [show j = j - z.length + z.length by omega, Nat.add_mod_right]
theorem range_zrep (y : Array Value) (n : Nat) (hpos : 0 < y.size) : ((Array.range (n * y.size)).map (y[· % y.size]!)).toList = zrep n y.toList := by
  apply List.ext_getElem?
  intro j
  by_cases hj : j < n * y.size
  · rw [zrep_get y.toList n j (by simpa using hj)]
    have hm : j % y.size < y.size := Nat.mod_lt _ hpos
    simp [hj, List.getElem?_range, hm, getElem!_pos, Array.getElem?_eq_getElem]
  · rw [List.getElem?_eq_none (by simp; omega), List.getElem?_eq_none (by rw [zrep_length]; simp; omega)]
theorem zrep_all {z : List Value} (hz : z.all okCell = true) : ∀ n, (zrep n z).all okCell = true
  | 0 => rfl
  | n + 1 => by simp only [zrep, List.all_append, hz, zrep_all hz n, Bool.and_self]
theorem okCells_one {z : List Value} (hz : z.all okCell = true) : z.all isOne = true := List.all_eq_true.2 fun v hv => okCell_one (List.all_eq_true.1 hz v hv)

theorem new_slc (hl : γ.length = h.length) (g : G) (len sz : Nat) (hsz : 0 < sz) (hc : len * sz ≤ g.cap) (ho : g.o = 0) :
    VR (γ ++ [g]) (.slice (some ⟨h.length, 0, none⟩) len sz) (.slice (some ⟨g.b, 0, none⟩) len (g.cap / sz)) := by
  have := VR.slc (γ := γ ++ [g]) h.length 0 len sz g (by rw [← hl]; simp) hsz (by omega)
  rwa [ho, Nat.add_zero, Nat.sub_zero] at this
theorem new_ptr (hl : γ.length = h.length) (g : G) (ho : g.o = 0) : VR (γ ++ [g]) (.pointer (some ⟨h.length, 0, none⟩)) (.pointer (some ⟨g.b, 0, none⟩)) := by
  have := VR.ptr (γ := γ ++ [g]) h.length 0 g (by rw [← hl]; simp)
  rwa [ho, Nat.add_zero] at this

/-- The row of memory under a block that may be written. -/
theorem Rel.row (R : Rel P B γ h w) {n : Nat} {b : Blk} {g : G} (hb : h.get n = some b) (hg : γ[n]? = some g) (hro : b.ro = false) :
    ∃ (cur : Array Value) (cs rest : List Value), w.heap[g.b]? = some (.cells cur b.e (0, 0)) ∧ cur.toList = cs ++ rest ∧ VRL γ b.c cs ∧ cur.size = g.cap := by
  obtain ⟨ho, _, hcap, ⟨cur, h1, h2⟩, _⟩ := R.rw n b g hb hg hro
  obtain ⟨cs, g1, g2⟩ := R.cells hb hg
  have hget : ∀ j v, cs[j]? = some v → cur.toList[j]? = some v := fun j v hv => by
    have := g2 j v hv
    rw [ho, Nat.zero_add, cell_of_row w g.b j cur b.e (0, 0) h1] at this
    rw [Array.getElem?_toList]
    exact this
  refine ⟨cur, cs, cur.toList.drop cs.length, h1, ?_, g1, h2⟩
  have hle : cs.length ≤ cur.toList.length := by rw [← g1.1]; simp; omega
  conv => lhs; rw [← List.take_append_drop cs.length cur.toList]
  congr 1
  apply List.ext_getElem?
  intro j
  rw [List.getElem?_take]
  split
  · rename_i hj
    rw [List.getElem?_eq_getElem hj]
    exact hget j _ (List.getElem?_eq_getElem hj)
  · rename_i hj
    rw [List.getElem?_eq_none (by omega)]

theorem splice_append (cs rest vs : List Value) (off : Nat) (hl : off + vs.length ≤ cs.length) : splice (cs ++ rest) off vs = splice cs off vs ++ rest := by
  unfold X.splice
  rw [List.take_append_of_le_length (by omega), List.drop_append_of_le_length hl, List.append_assoc, List.append_assoc, List.append_assoc]

theorem splice_len (cs vs : List Value) (off : Nat) (hl : off + vs.length ≤ cs.length) : (splice cs off vs).length = cs.length := by
  simp [X.splice]; omega
theorem splice_one {cs vs : List Value} {off : Nat} (h1 : cs.all isOne = true) (h2 : vs.all isOne = true) : (splice cs off vs).all isOne = true := by
  simp only [X.splice, List.all_append, Bool.and_eq_true]
  refine ⟨⟨List.all_eq_true.2 fun v hv => List.all_eq_true.1 h1 v (List.mem_of_mem_take hv), h2⟩, List.all_eq_true.2 fun v hv => List.all_eq_true.1 h1 v (List.mem_of_mem_drop hv)⟩

theorem wr_some {n off : Nat} {vs : List Value} (hw : h.wr n off vs = some h') : ∃ b, h.get n = some b ∧ b.ro = false ∧ off + vs.length ≤ b.c.length ∧ h' = h.set n (some { b with c := splice b.c off vs }) := by
  obtain ⟨b, hb, h1⟩ := Option.bind_eq_some_iff.1 hw
  obtain ⟨⟨h2, h3⟩, h4⟩ := ite_some h1
  exact ⟨b, hb, h2, h3, h4.symm⟩

theorem Rel.allOne (R : Rel P B γ h w) {n : Nat} {b : Blk} (hb : h.get n = some b) : b.c.all isOne = true := by
  obtain ⟨g, hg⟩ := R.ghost hb
  exact List.all_eq_true.2 fun v hv => by
    obtain ⟨j, hj⟩ := List.mem_iff_getElem?.1 hv
    exact (R.cell n b g hb hg j v hj).1

theorem store_sim (R : Rel P B γ h w) {n off : Nat} {vs us : List Value} {g : G} (hg : γ[n]? = some g) (hw : h.wr n off vs = some h') (hone : vs.all isOne = true) (hvr : VRL γ vs us) :
    ∃ w', (storeCells ⟨g.b, g.o + off, none⟩ us).run P w = .ok () w' ∧ Sim P B γ h w γ h' w' := by
  obtain ⟨b, hb, hro, hlen, rfl⟩ := wr_some hw
  obtain ⟨cur, cs, rest, h1, h2, h3, h4⟩ := R.row hb hg hro
  have ho := (R.rw n b g hb hg hro).1
  have hcl : cs.length + rest.length = cur.size := by have := congrArg List.length h2; simp at this; omega
  have hul : us.length = vs.length := hvr.1.symm
  have hrun := run_storeCells_at (P := P) g.b off b.e us 0 cur w h1 (by have := h3.1; omega) (hvr.one hone)
  rw [ho, Nat.zero_add]
  refine ⟨_, hrun, ?_⟩
  have harr : cur.toList.take (off + 0) ++ us ++ cur.toList.drop (off + 0 + us.length) = splice cs off us ++ rest := by
    rw [Nat.add_zero, ← splice_append cs rest us off (by have := h3.1; omega), ← h2]; rfl
  rw [harr]
  refine Sim.stored R hb hg hro _ _ cur h1 (splice_len _ _ _ hlen) (by
    have := splice_len cs us off (by have := h3.1; omega)
    simp [this]; omega) (splice_one (R.allOne hb) hone) ?_
  intro j v hv
  obtain ⟨v', h5, h6⟩ := (h3.splice hvr off).get hv
  refine ⟨v', ?_, h6⟩
  rw [List.getElem?_toArray, List.getElem?_append_left (List.getElem?_eq_some_iff.1 h5).1]
  exact h5

theorem wrap_small {n : Int} (h0 : 0 ≤ n) (h1 : n ≤ 9223372036854775807) : IntKind.i64.wrap n = n := by
  exact IntWalk.i64_in n (by omega)

theorem run_append_zero {t e : TypeId} {i : TypeInfo} (ty : TypeId) (A A' : Option Addr) (n c c' : Nat) (ht : P.underlying t = some (.slice e)) (hi : P.info? e = some i) (hn : n ≤ c) (w : World) :
    (Builtin.append_ #[t, t] ty #[.slice A n c, .slice A' 0 c']).run P w = .ok (.slice A n c) w := by
  have hf : (Builtin.firstCells i.size 0 (.slice A' 0 c')).run P w = .ok #[] w := by
    cases A' with
    | none => rfl
    | some b => simp only [Builtin.firstCells, Nat.zero_mul]; rfl
  have hs : (sizeOf e).run P w = .ok i.size w := by simp [sizeOf, typeInfo, hi]
  unfold Builtin.append_
  simp only [List.getElem?_toArray, List.getElem?_cons_zero, List.getElem?_cons_succ]
  rw [Sem.run_bind, run_underlying ht, Result.andThen_ok]
  simp only []
  rw [Sem.run_bind, hs, Result.andThen_ok, Sem.run_bind]
  simp only [Sem.run_bind, run_underlying ht, Result.andThen_ok, Sem.run_pure]
  simp only [Bool.false_eq_true, if_false, Builtin.lenOf]
  rw [Sem.run_bind, Sem.run_pure, Result.andThen_ok, if_pos (show n + 0 ≤ c by omega)]
  simp only [Bool.not_false, if_true]
  rw [Sem.run_bind, hf, Result.andThen_ok]
  cases A <;> rfl

theorem app_sound {e sz bytes : Nat} {s y : Operand} {t ty : TypeId} {i : TypeInfo} {z : Value} (hx : xop (.app e sz bytes s y) f h = some (v, h'))
    (ht : P.underlying t = some (.slice e)) (hi : P.info? e = some i) (hz : i.zero = some z) (hzl : z.cells.size = i.size) (hpos : 0 < i.size) (hsz : sz = i.size) (hby : bytes = i.bytes)
    (hs : VR γ (ev f s) (a.eval s)) (hy : VR γ (ev f y) (a.eval y)) (R : Rel P B γ h w) :
    ∃ γ' v' w', (Builtin.append_ #[t, t] ty #[a.eval s, a.eval y]).run P w = .ok v' w' ∧ VR γ' v v' ∧ Sim P B γ h w γ' h' w' := by
  subst hsz hby
  simp only [xop] at hx
  split at hx
  · rename_i A n tt A' m t' hes hey
    rw [hes] at hs
    rw [hey] at hy
    split at hx
    · cases hx
    · rename_i news hnews
      obtain ⟨⟨hb1, hb2⟩, hx2⟩ := ite_none hx
      have hb1' : (n + m) * i.bytes ≤ 140737488355328 := by
        have e : ((n : Int) + m) * i.bytes = (((n + m) * i.bytes : Nat) : Int) := by rw [Int.natCast_mul, Int.natCast_add]
        rw [e] at hb1
        omega
      obtain ⟨yA, yc, ey, hyc⟩ := hy.len_inv
      by_cases hm : m = 0
      · subst hm
        obtain ⟨sA, sc, es, hsc⟩ := hs.len_inv
        have hrun := run_append_zero (P := P) ty sA yA n sc yc ht hi hsc w
        have hres : v = .slice A n tt ∧ h' = h := by
          split at hx2
          · obtain ⟨⟨rfl, _⟩, h4⟩ := ite_none hx2
            simp only [if_true, Option.some.injEq, Prod.mk.injEq] at h4
            exact ⟨h4.1.symm, h4.2.symm⟩
          · simp only [if_true, Option.some.injEq, Prod.mk.injEq] at hx2
            exact ⟨hx2.1.symm, hx2.2.symm⟩
        obtain ⟨rfl, rfl⟩ := hres
        rw [es] at hs
        exact ⟨γ, _, w, by rw [es, ey]; exact hrun, hs, Sim.refl R⟩
      · have hmpos : 0 < m := Nat.pos_of_ne_zero hm
        -- what is appended
        obtain ⟨yb, us, hyA, hus, husr, huone⟩ : ∃ (yb : Addr) (us : List Value), yA = some yb ∧ VRL γ news us ∧ (∀ j u, us[j]? = some u → w.cell? (yb.add j) = some u) ∧ (us.length = m * i.size ∧ news.all isOne = true) := by
          cases A' with
          | none => simp at hnews; exact absurd hnews.1 hm
          | some ad =>
            obtain ⟨n', off, sp⟩ := ad
            simp only at hnews
            obtain ⟨ht', h3⟩ := ite_none hnews
            obtain ⟨_, g, hg, _, _, ey'⟩ := hy.slc_inv
            rw [ey] at ey'
            simp only [Value.slice.injEq, true_and] at ey'
            obtain ⟨b, hb, h4⟩ := Option.bind_eq_some_iff.1 h3
            obtain ⟨h5, rfl⟩ := ite_some h4
            obtain ⟨cs, g1, g2⟩ := R.cells hb hg
            refine ⟨_, (cs.drop off).take (m * i.size), ey'.1, (g1.drop off).take _, fun j u hu => ?_, by have := g1.1; simp; omega, ?_⟩
            · rw [add_at]
              rw [List.getElem?_take] at hu
              split at hu
              · rw [List.getElem?_drop] at hu
                rw [Nat.add_assoc]
                exact g2 _ _ hu
              · cases hu
            · exact List.all_eq_true.2 fun v hv => List.all_eq_true.1 (R.allOne hb) v (List.mem_of_mem_drop (List.mem_of_mem_take hv))
        obtain ⟨husl, hnone⟩ := huone
        subst hyA
        have hnl : news.length = m * i.size := hus.1.trans husl
        -- a new array
        have fresh : ∀ (γ0 : List G) (h0 : AH) (olds olds' : List Value) (need old : Nat), Rel P B γ0 h0 w → VRL γ0 olds olds' → VRL γ0 news us → olds.all isOne = true → olds.length + news.length = need * i.size → need ≤ maxLen → 0 < need →
            (Builtin.append_ #[t, t] ty #[a.eval s, a.eval y]).run P w = .ok (.slice (some ⟨w.heap.size, 0, none⟩) need (grownCap w need old e)) (w.drew.alloc (.cells (olds'.toArray ++ us.toArray ++ Builtin.zeroCells z.cells (grownCap w need old e - need)) e)) →
            ∃ γ' v' w', (Builtin.append_ #[t, t] ty #[a.eval s, a.eval y]).run P w = .ok v' w' ∧ VR γ' (.slice (some ⟨h0.length, 0, none⟩) need i.size) v' ∧ Sim P B γ0 h0 w γ' (h0.new ⟨olds ++ news, e, false, false⟩) w' := by
          intro γ0 h0 olds olds' need old R0 ho hn hoo hlen hnm hnp hrun
          have hge := grownCap_ge w need old e
          have hcm : grownCap w need old e ≤ maxLen := grownCap_le_maxLen w need old e hnm
          have hol : olds'.length = olds.length := ho.1.symm
          have hsize : (olds'.toArray ++ us.toArray ++ Builtin.zeroCells z.cells (grownCap w need old e - need)).size = grownCap w need old e * i.size := by
            simp only [Array.size_append, List.size_toArray, size_zeroCells, hzl]
            have : olds'.length + us.length = need * i.size := by rw [hol, ← hn.1]; exact hlen
            rw [this, ← Nat.add_mul]
            congr 1
            omega
          have hcell : P.cellsOf e = i.size := by simp [Program.cellsOf, hi]
          have S1 := Sim.alloc (w := w.drew) R0.drew (olds ++ news) e false (olds'.toArray ++ us.toArray ++ Builtin.zeroCells z.cells (grownCap w need old e - need)) (by simp only [List.all_append, hoo, hnone, Bool.and_self])
            (fun j v hv => by
              obtain ⟨v', h5, h6⟩ := (ho.append hn).get hv
              refine ⟨v', ?_, h6⟩
              have hlt := (List.getElem?_eq_some_iff.1 h5).1
              simp only [List.append_toArray]
              rw [← Array.getElem?_toList, Array.toList_append, List.toList_toArray, List.getElem?_append_left hlt]
              exact h5)
            (by rw [hsize, List.length_append, hlen]; exact Nat.mul_le_mul_right _ hge) (by simp) (fun _ => ⟨grownCap w need old e, by rw [hsize, hcell], hcm⟩)
          refine ⟨_, _, _, hrun, ?_, (Sim.drawn R0).trans S1⟩
          have := new_slc (h := h0) R0.len ⟨w.heap.size, 0, (olds'.toArray ++ us.toArray ++ Builtin.zeroCells z.cells (grownCap w need old e - need)).size⟩ need i.size hpos (by simp only [hsize]; exact Nat.mul_le_mul_right _ hge) rfl
          simp only [hsize, Nat.mul_div_cancel _ hpos] at this
          simp only [hsize]
          exact this
        have hmax : n + m ≤ maxLen := by simp only [maxLen]; omega
        cases A with
        | none =>
          simp only [] at hx2
          obtain ⟨⟨rfl, htt⟩, h4⟩ := ite_none hx2
          rw [if_neg hm] at h4
          simp only [Option.some.injEq, Prod.mk.injEq] at h4
          obtain ⟨rfl, rfl⟩ := h4
          rw [Nat.zero_add] at hb1' hmax
          obtain ⟨_, h5⟩ := hs.nil_inv
          have goNil : a.eval s = .slice none 0 0 → _ := fun es =>
            fresh γ h [] [] m 0 R (VRL.nil γ) hus rfl (by simp [hnl]) hmax hmpos (by
              rw [es, ey]
              have := run_append_nil (P := P) w t ty e i z ht hi hz yb m yc us husl husr hmpos (by omega) (by omega)
              simpa using this)
          rcases h5 with ⟨_, es⟩ | ⟨rfl, _⟩ | ⟨_, sA, es⟩
          · exact goNil es
          · rcases htt with h6 | h6 <;> simp at h6
          · cases sA with
            | none => exact goNil es
            | some sb =>
              refine fresh γ h [] [] m 0 R (VRL.nil γ) hus rfl (by simp [hnl]) hmax hmpos ?_
              rw [es, ey]
              have := run_append_grow (P := P) w t ty e i z ht hi hz sb 0 0 [] (by simp) (fun j v hv => by simp at hv) yb m yc us husl husr (by omega) (by omega) (growslice_fits (by omega) (by simpa using hb1'))
              simpa using this
        | some ad =>
          obtain ⟨k, off, sp⟩ := ad
          simp only [] at hx2
          rw [if_neg hm] at hx2
          split at hx2
          · rename_i b hb
            obtain ⟨⟨rfl, hro, rfl, hbl, rfl⟩, h4⟩ := ite_some hx2
            simp only [Prod.mk.injEq] at h4
            obtain ⟨rfl, rfl⟩ := h4
            obtain ⟨_, g, hg, _, hcap, es⟩ := hs.slc_inv
            obtain ⟨cur, cs, rest, r1, r2, r3, r4⟩ := R.row hb hg hro
            obtain ⟨ho, hB, _, _, hfull, hdiv⟩ := R.rw k b g hb hg hro
            rw [ho, Nat.add_zero, Nat.sub_zero] at es
            rw [Nat.zero_add] at hcap
            have hcsl : cs.length = n * i.size := by rw [← r3.1]; exact hbl
            have hkl : (h.kill k).length = h.length := by simp [AH.kill]
            by_cases hroom : n + m ≤ g.cap / i.size
            · have hroom' : (n + m) * i.size ≤ g.cap := (Nat.le_div_iff_mul_le hpos).1 hroom
              have hnf : b.full = false := by
                cases hf : b.full with
                | false => rfl
                | true =>
                  have := hfull hf
                  rw [this, hbl, Nat.mul_div_cancel _ hpos] at hroom
                  omega
              have husz : us.length = m * i.size := husl
              have hfit : n * i.size + us.length ≤ cur.size := by rw [husz, ← Nat.add_mul, r4]; exact hroom'
              have hrun := run_append_room (P := P) w t ty b.e i ht hi g.b n (g.cap / i.size) cur r1 yb m yc us husl husr (hus.one hnone) hroom hfit
              refine ⟨γ ++ [g], _, _, by rw [es, ey]; exact hrun, ?_, Sim.onto R hb hg hro hnf (b.c ++ news) _ cur r1 ?_ ?_ ?_ ?_⟩
              · exact new_slc R.len g (n + m) i.size hpos hroom' ho
              · rw [List.length_append, hbl, hnl, ← Nat.add_mul]; exact hroom'
              · simp; omega
              · simp only [List.all_append, R.allOne hb, hnone, Bool.and_self]
              · intro j v hv
                obtain ⟨v', h5, h6⟩ := (r3.append hus).get hv
                refine ⟨v', ?_, h6⟩
                have hlt := (List.getElem?_eq_some_iff.1 h5).1
                rw [List.getElem?_toArray, r2, ← hcsl, List.take_left, List.getElem?_append_left hlt]
                exact h5
            · have := fresh γ (h.kill k) b.c cs (n + m) (g.cap / i.size) (R.kill k) r3 hus (R.allOne hb) (by rw [hbl, hnl, Nat.add_mul]) hmax (by omega) (by
                rw [es, ey]
                exact run_append_grow (P := P) w t ty b.e i z ht hi hz ⟨g.b, 0, none⟩ n (g.cap / i.size) cs hcsl (fun j v hv => by
                  rw [add_at, Nat.zero_add, cell_of_row w g.b j cur b.e (0, 0) r1, ← Array.getElem?_toList, r2, List.getElem?_append_left (List.getElem?_eq_some_iff.1 hv).1]
                  exact hv) yb m yc us husl husr (by omega) (by omega) (growslice_fits (by omega) hb1'))
              obtain ⟨γ', v', w', q1, q2, q3⟩ := this
              rw [hkl] at q2
              exact ⟨γ', v', w', q1, q2, (Sim.killed R k).trans q3⟩
          · cases hx2
  · cases hx

theorem heap_sound {o : Oper} {x : XOp} (hc : compOp P o.op = some x) (hcl : cls x = 2 ∨ cls x = 4) (hx : xop x f h = some (v, h')) (hv : VO γ f a o.op.operands) (R : Rel P B γ h w) :
    OpOk P B γ h w a o v h' := by
  obtain ⟨dst, op, ty, pos, after, guard⟩ := o
  simp only [] at hc hv
  have hco := cls_op hc
  cases op with
  | alloc e =>
    obtain ⟨z, hz, rfl⟩ := map_some hc
    obtain ⟨i, y, hi, hy, rfl, hok, hlen, hpos⟩ := zeroT_some hz
    simp only [xop, Option.some.injEq, Prod.mk.injEq] at hx
    obtain ⟨rfl, rfl⟩ := hx
    refine ⟨_, .value (.pointer (some ⟨w.heap.size, 0, none⟩)), _, _, ?_, rfl, ?_, Sim.made R y.cells.toList y.cells.toList e (okCells_one hok) (okCells_refl hok)⟩
    · simp [execOp, Instr.alloc, zeroValue, typeInfo, hi, hy, newVar, newRow]
    · exact new_ptr R.len _ rfl
  | box e y =>
    obtain ⟨h1, rfl⟩ := ite_some hc
    have hy := hv y (by simp [Op.operands]) h1
    simp only [xop] at hx
    obtain ⟨h2, h3⟩ := ite_some hx
    simp only [Prod.mk.injEq] at h3
    obtain ⟨rfl, rfl⟩ := h3
    refine ⟨_, .value (.pointer (some ⟨w.heap.size, 0, none⟩)), _, _, ?_, rfl, ?_, Sim.made R _ (a.eval y).cells.toList e h2 hy.cells⟩
    · simp [execOp, Instr.box, newVar, newRow]
    · exact new_ptr R.len _ rfl
  | buildSlice t n parts =>
    simp only [compOp] at hc
    split at hc
    · rename_i e hu
      split at hc
      · rename_i z i hz hi
        obtain ⟨h1, h2⟩ := ite_none hc
        obtain ⟨l, hl, rfl⟩ := map_some h2
        obtain ⟨i', y, hi', hy, rfl, hok, hlen, hpos⟩ := zeroT_some hz
        rw [hi] at hi'; cases hi'
        simp only [xop] at hx
        split at hx
        · rename_i c hf
          obtain ⟨h3, h4⟩ := ite_some hx
          simp only [Prod.mk.injEq] at h4
          obtain ⟨rfl, rfl⟩ := h4
          have hys : y.cells.size = i.size := by simpa using hlen
          have hcells : ∀ zero : Array Value, zero = (if n * i.size = 0 then #[] else y.cells) → ((Array.range (n * i.size)).map (zero[· % zero.size]!)).toList = zrep n y.cells.toList := by
            rintro zero rfl
            split
            · rename_i h0
              have hn0 : n = 0 := by rcases Nat.mul_eq_zero.1 h0 with h | h <;> omega
              subst hn0
              simp [zrep]
            · rw [← hys]; exact range_zrep y.cells n (by omega)
          obtain ⟨cr, h5, h6⟩ := fill_sound (γ := γ) (f := f) (a := a) (place := fun j => some (j * i.size, i.size)) (place' := fun j => some (j * i.size, i.size)) (fun _ => rfl) parts.toList l _ c
            ((Array.range (n * i.size)).map ((if n * i.size = 0 then #[] else y.cells)[· % (if n * i.size = 0 then #[] else y.cells : Array Value).size]!)) hl hf (by rw [hcells _ rfl]; exact okCells_refl (zrep_all hok n))
            (fun p hp => hv p.2 (by simp [Op.operands]; exact ⟨p.1, by simpa using hp⟩))
          have hcl' : c.length = n * i.size := by
            have : ∀ (l : List (Nat × Nat × Operand)) (z c : List Value), fillX f z l = some c → c.length = z.length := by
              intro l
              induction l with
              | nil => intro z c hc; simp [fillX] at hc; rw [hc]
              | cons q l ih =>
                intro z c hc
                obtain ⟨o, s, x⟩ := q
                simp only [fillX] at hc
                obtain ⟨⟨q1, q2⟩, q3⟩ := ite_none hc
                rw [ih _ _ q3, splice_len _ _ _ (by rw [q1]; exact q2)]
            rw [this l _ c hf, zrep_length, hlen]
          have S := Sim.made R c cr.toList e h3 h6
          refine ⟨_, .value (.slice (some ⟨w.heap.size, 0, none⟩) n n), _, _, ?_, rfl, ?_, S⟩
          · have hmap : (parts.map fun (i, x) => (i, a.eval x)).toList = parts.toList.map fun p => (p.1, a.eval p.2) := by simp
            have hle : ¬ n * i.size > 2 ^ 24 := by omega
            have hsz : (sizeOf e).run P w = .ok i.size w := by simp [sizeOf, typeInfo, hi]
            have hzero : ((if n * i.size = 0 then pure #[] else do pure (← zeroValue e).cells) : Sem (Array Value)).run P w = .ok (if n * i.size = 0 then #[] else y.cells) w := by
              split
              · rfl
              · simp [zeroValue, typeInfo, hi, hy]
            have hb : (Instr.buildSlice t n (parts.map fun (i, x) => (i, a.eval x))).run P w = .ok (.slice (some ⟨w.heap.size, 0, none⟩) n n) (w.alloc (.cells cr e)) := by
              unfold Instr.buildSlice
              rw [Sem.run_bind, run_und hu, Result.andThen_ok]
              simp only []
              rw [Sem.run_bind, hsz, Result.andThen_ok, if_neg hle]
              by_cases h0 : n * i.size = 0
              · rw [if_pos h0] at hzero ⊢
                simp only [if_pos h0] at h5
                rw [Sem.run_bind, Sem.run_pure, Result.andThen_ok, hmap, h5]
                rfl
              · rw [if_neg h0] at hzero ⊢
                simp only [if_neg h0] at h5
                have hz1 : (zeroValue e).run P w = .ok y w := by simp [zeroValue, typeInfo, hi, hy]
                rw [Sem.run_bind, hz1, Result.andThen_ok, Sem.run_bind, Sem.run_pure, Result.andThen_ok, hmap, h5]
                rfl
            simp only [execOp, Sem.run_bind, hb, Result.andThen_ok, Sem.run_pure, Array.toArray_toList]
          · have := new_slc R.len ⟨w.heap.size, 0, c.length⟩ n i.size hpos (by simp [hcl']) rfl
            simp only [hcl', Nat.mul_div_cancel _ hpos] at this
            rw [hcl']
            exact this
        · cases hx
      · cases hc
    · cases hc
  | makeSlice t l c =>
    simp only [compOp] at hc
    split at hc
    · rename_i e hu
      split at hc
      · rename_i z i hz hi
        obtain ⟨h1, rfl⟩ := ite_some hc
        simp only [Bool.and_eq_true] at h1
        obtain ⟨i', y, hi', hy, rfl, hok, hlen, hpos⟩ := zeroT_some hz
        rw [hi] at hi'; cases hi'
        have hl := hv l (by simp [Op.operands]) h1.2
        have hlc : ∀ k n, a.eval l = .int k n → ∃ k', a.eval c = .int k' n := by
          intro k n e1
          have h2 := h1.1
          unfold sameOpd at h2
          split at h2
          · have : _ = _ := beq_iff_eq.1 h2
            subst this
            exact ⟨k, e1⟩
          · have : _ = _ := beq_iff_eq.1 h2
            subst this
            simp only [Act.eval, Value.int.injEq] at e1 ⊢
            exact ⟨_, rfl, e1.2⟩
          · cases h2
        simp only [xop] at hx
        split at hx
        · rename_i k m he
          rw [he] at hl
          obtain ⟨⟨h2, h3, h3'⟩, h4⟩ := ite_some hx
          simp only [Prod.mk.injEq] at h4
          obtain ⟨rfl, rfl⟩ := h4
          obtain ⟨k', ec⟩ := hlc k m hl.int_inv
          have hw := wrap_small h2 h3'
          have hys : y.cells.size = i.size := by simpa using hlen
          have hcells : ∀ zero : Array Value, zero = (if m.toNat * i.size = 0 then #[] else y.cells) → ((Array.range (m.toNat * i.size)).map (zero[· % zero.size]!)).toList = zrep m.toNat y.cells.toList := by
            rintro zero rfl
            split
            · rename_i h0
              have hn0 : m.toNat = 0 := by rcases Nat.mul_eq_zero.1 h0 with h | h <;> omega
              rw [hn0]
              simp [zrep]
            · rw [← hys]; exact range_zrep y.cells m.toNat (by omega)
          have S := Sim.made R (zrep m.toNat y.cells.toList) (zrep m.toNat y.cells.toList) e (okCells_one (zrep_all hok _)) (okCells_refl (zrep_all hok _))
          refine ⟨_, .value (.slice (some ⟨w.heap.size, 0, none⟩) m.toNat m.toNat), _, _, ?_, rfl, ?_, S⟩
          · have b1 : ¬ m < 0 := by omega
            have b2 : ¬ ((i.bytes : Int) * m > 2 ^ 48) := by rw [Int.mul_comm]; omega
            have d1 : decide (m < 0) = false := decide_eq_false b1
            have d2 : decide ((i.bytes : Int) * m > 2 ^ 48) = false := decide_eq_false b2
            have d3 : decide (m > m) = false := decide_eq_false (by omega)
            have b4 : ((decide (m < 0) || decide ((i.bytes : Int) * m > 2 ^ 48)) || decide (m < 0) || decide (m > m)) = false := by rw [d1, d2, d3]; rfl
            have hc2 := hcells _ rfl
            have hsz : (sizeOf e).run P w = .ok i.size w := by simp [sizeOf, typeInfo, hi]
            have hti : (typeInfo e).run P w = .ok i w := by simp [typeInfo, hi]
            have hzero : ((if m.toNat * i.size = 0 then pure #[] else do pure (← zeroValue e).cells) : Sem (Array Value)).run P w = .ok (if m.toNat * i.size = 0 then #[] else y.cells) w := by
              split
              · rfl
              · simp [zeroValue, typeInfo, hi, hy]
            have hasl : (asInt (a.eval l)).run P w = .ok m w := by rw [hl.int_inv]; rfl
            have hasc : (asInt (a.eval c)).run P w = .ok m w := by rw [ec]; rfl
            have hb : (Instr.makeSlice t (a.eval l) (a.eval c)).run P w = .ok (.slice (some ⟨w.heap.size, 0, none⟩) m.toNat m.toNat) (w.alloc (.cells (zrep m.toNat y.cells.toList).toArray e)) := by
              unfold Instr.makeSlice
              rw [Sem.run_bind, run_und hu, Result.andThen_ok]
              simp only []
              rw [Sem.run_bind, hasl, Result.andThen_ok, Sem.run_bind, hasc, Result.andThen_ok, Sem.run_bind, hti, Result.andThen_ok]
              simp only [hw]
              rw [if_neg (by rw [b4]; decide), Sem.run_bind, run_askRoom, Result.andThen_ok, Sem.run_bind, hsz, Result.andThen_ok]
              by_cases h0 : m.toNat * i.size = 0
              · rw [if_pos h0, Sem.run_bind, Sem.run_pure, Result.andThen_ok]
                simp only [if_pos h0] at hc2
                rw [← hc2]
                rfl
              · simp only [if_neg h0] at hc2
                have hz1 : (zeroValue e).run P w = .ok y w := by simp [zeroValue, typeInfo, hi, hy]
                rw [if_neg h0, Sem.run_bind, hz1, Result.andThen_ok, Sem.run_bind, Sem.run_pure, Result.andThen_ok, ← hc2]
                rfl
            simp only [execOp, Sem.run_bind, hb, Result.andThen_ok, Sem.run_pure]
          · have := new_slc R.len ⟨w.heap.size, 0, (zrep m.toNat y.cells.toList).length⟩ m.toNat i.size hpos (by simp [zrep_length, hys]) rfl
            simp only [zrep_length, hlen, Nat.mul_div_cancel _ hpos] at this
            simp only [zrep_length, hlen]
            exact this
        · cases hx
      · cases hc
    · cases hc
  | store t y z =>
    obtain ⟨h1, h2⟩ := ite_none hc
    obtain ⟨n, hn, rfl⟩ := map_some h2
    simp only [Bool.and_eq_true] at h1
    have hy := hv y (by simp [Op.operands]) h1.1
    have hz := hv z (by simp [Op.operands]) h1.2
    simp only [xop] at hx
    split at hx
    · rename_i m off sp he
      rw [he] at hy
      obtain ⟨_, g, hg, e1⟩ := hy.ptr_inv
      obtain ⟨⟨h3, h3'⟩, h4⟩ := ite_none hx
      split at h4
      · rename_i h2' hw
        simp only [Option.some.injEq, Prod.mk.injEq] at h4
        obtain ⟨rfl, rfl⟩ := h4
        obtain ⟨w', hrun, S⟩ := store_sim R hg hw h3' hz.cells
        refine ⟨γ, .skip, undef, w', ?_, rfl, VR.undef γ, S⟩
        have hsz : (a.eval z).cells.size = n := by have := hz.cells.1; simp at this h3; omega
        simp [execOp, e1, Instr.storeAt, Instr.sureAddr, storeVar, run_size hn, hsz, hrun]
      · cases h4
    · cases hx
  | call c =>
    obtain ⟨callee, args, argTypes⟩ := c
    cases callee with
    | value fo => obtain ⟨h1, rfl⟩ := ite_some hc; simp [cls] at hcl
    | invoke r m => simp [compOp, compCall] at hc
    | builtin b =>
      cases b <;> simp only [compOp, compCall, reduceCtorEq] at hc
      case len =>
        split at hc
        · split at hc
          · obtain ⟨_, rfl⟩ := ite_some hc; simp [cls] at hcl
          · cases hc; simp [cls] at hcl
          · cases hc
        · cases hc
      case append =>
        split at hc
        · rename_i s y t u hargs htys
          have ha : args = #[s, y] := by rw [← Array.toArray_toList (xs := args), hargs]
          have ht : argTypes = #[t, u] := by rw [← Array.toArray_toList (xs := argTypes), htys]
          subst ha ht
          split at hc
          · rename_i e e' hu hu'
            split at hc
            · rename_i z i hz hi
              obtain ⟨h1, rfl⟩ := ite_some hc
              simp only [Bool.and_eq_true, beq_iff_eq] at h1
              obtain ⟨⟨rfl, h2⟩, h3⟩ := h1
              obtain ⟨i', y', hi', hy', rfl, hok, hlen, hpos⟩ := zeroT_some hz
              rw [hi] at hi'; cases hi'
              have hs := hv s (by simp [Op.operands, Call.operands]) h2
              have hy := hv y (by simp [Op.operands, Call.operands]) h3
              obtain ⟨γ', v', w', q1, q2, q3⟩ := app_sound (ty := ty) (a := a) hx hu hi hy' (by simpa using hlen) hpos rfl rfl hs hy R
              exact ⟨γ', .value v', v', w', by simp [execOp, resolve, invoke, builtin, q1], rfl, q2, q3⟩
            · cases hc
          · cases hc
        · cases hc
      case max =>
        split at hc
        · obtain ⟨_, rfl⟩ := ite_some hc; simp [cls] at hcl
        · cases hc
      case min =>
        split at hc
        · obtain ⟨_, rfl⟩ := ite_some hc; simp [cls] at hcl
        · cases hc
  | slice t y lo hi mx => rcases hco with h1 | h1 <;> rcases hcl with h2 | h2 <;> omega
  | load t y => simp only [clsOk] at hco; omega
  | _ => simp only [clsOk] at hco; omega

end Go.Proofs.Ytnjhhgfpclngcaa.X
