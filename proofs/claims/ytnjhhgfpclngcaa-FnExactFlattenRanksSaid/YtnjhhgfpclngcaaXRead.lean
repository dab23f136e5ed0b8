/- The abstract machine's soundness, part 7: the operations that read, make blocks, write and append. -/
import Derived.Test.YtnjhhgfpclngcaaXPure2
set_option linter.unusedVariables false
set_option linter.unusedSimpArgs false
namespace Go.Proofs.Ytnjhhgfpclngcaa.X
open Go Go.RowKit

variable {P : Program} {B : Nat} {γ : List G} {h h' : AH} {w : World} {f : Fr} {a : Act} {v : Value}

def clsOk : Op → Nat → Prop
  | .load _ _, n => n = 1
  | .slice _ _ _ _ _, n => n = 0 ∨ n = 1
  | .alloc _, n | .box _ _, n | .buildSlice _ _ _, n | .makeSlice _ _ _, n => n = 2
  | .store _ _ _, n => n = 4
  | .call _, n => n = 0 ∨ n = 3 ∨ n = 4
  | _, n => n = 0

theorem cls_op {op : Op} {x : XOp} (hc : compOp P op = some x) : clsOk op (cls x) := by
  cases op with
  | move y => obtain ⟨_, rfl⟩ := ite_some (by simpa [compOp] using hc); rfl
  | assign y => obtain ⟨_, rfl⟩ := ite_some (by simpa [compOp] using hc); rfl
  | pick c y z => obtain ⟨_, rfl⟩ := ite_some hc; rfl
  | alloc e => obtain ⟨z, _, rfl⟩ := map_some hc; rfl
  | box e y => obtain ⟨_, rfl⟩ := ite_some hc; rfl
  | build t parts =>
    simp only [compOp] at hc
    split at hc
    · obtain ⟨_, h2⟩ := ite_none hc
      obtain ⟨l, _, rfl⟩ := map_some h2; rfl
    · obtain ⟨_, h2⟩ := ite_none hc
      obtain ⟨l, _, rfl⟩ := map_some h2; rfl
    · cases hc
  | buildSlice t n parts =>
    simp only [compOp] at hc
    split at hc
    · split at hc
      · obtain ⟨_, h2⟩ := ite_none hc
        obtain ⟨l, _, rfl⟩ := map_some h2; rfl
      · cases hc
    · cases hc
  | load t y =>
    obtain ⟨_, h2⟩ := ite_none hc
    split at h2
    · cases h2; rfl
    · cases h2; rfl
    · cases h2
  | store t y z =>
    obtain ⟨_, h2⟩ := ite_none hc
    obtain ⟨n, _, rfl⟩ := map_some h2; rfl
  | makeSlice t l c =>
    simp only [compOp] at hc
    split at hc
    · split at hc
      · obtain ⟨_, rfl⟩ := ite_some hc; rfl
      · cases hc
    · cases hc
  | slice t y lo hi mx =>
    obtain ⟨_, h2⟩ := ite_none hc
    split at h2
    · split at h2
      · split at h2
        · cases h2; exact .inl rfl
        · split at h2
          · obtain ⟨_, rfl⟩ := ite_some h2; exact .inl rfl
          · cases h2
        · cases h2
      · cases h2
    · split at h2
      · split at h2
        · cases h2; exact .inr rfl
        · cases h2
      · cases h2
    · cases h2
  | call c =>
    obtain ⟨callee, args, argTypes⟩ := c
    cases callee with
    | value fo => obtain ⟨h1, rfl⟩ := ite_some hc; exact .inr (.inl rfl)
    | invoke r m => simp [compOp, compCall] at hc
    | builtin b =>
      cases b <;> simp only [compOp, compCall, reduceCtorEq] at hc
      case len =>
        split at hc
        · split at hc
          · obtain ⟨_, rfl⟩ := ite_some hc; exact .inl rfl
          · cases hc; exact .inl rfl
          · cases hc
        · cases hc
      case append =>
        split at hc
        · split at hc
          · split at hc
            · obtain ⟨h1, rfl⟩ := ite_some hc; exact .inr (.inr rfl)
            · cases hc
          · cases hc
        · cases hc
      case max =>
        split at hc
        · obtain ⟨_, rfl⟩ := ite_some hc; exact .inl rfl
        · cases hc
      case min =>
        split at hc
        · obtain ⟨_, rfl⟩ := ite_some hc; exact .inl rfl
        · cases hc
  | binOp op t y z yt =>
    obtain ⟨_, h2⟩ := ite_none hc
    split at h2
    · cases h2; rfl
    · cases op <;> simp only [Option.some.injEq, reduceCtorEq] at h2 <;> subst h2 <;> rfl
    · split at h2
      · cases op <;> simp only [Option.some.injEq, reduceCtorEq] at h2 <;> subst h2 <;> rfl
      · cases h2
    · split at h2
      · cases op <;> simp only [Option.some.injEq, reduceCtorEq] at h2 <;> subst h2 <;> rfl
      · cases h2
    · cases h2
  | unOp op t y => obtain ⟨_, rfl⟩ := ite_some hc; rfl
  | convert s d y =>
    obtain ⟨_, h2⟩ := ite_none hc
    split at h2
    · cases h2; rfl
    · cases h2
  | fieldAddr s y fi =>
    obtain ⟨_, h2⟩ := ite_none hc
    split at h2
    · split at h2
      · split at h2
        · obtain ⟨_, rfl⟩ := ite_some h2; rfl
        · cases h2
      · cases h2
    · cases h2
  | field t y fi =>
    obtain ⟨_, h2⟩ := ite_none hc
    split at h2
    · split at h2
      · split at h2
        · cases h2; rfl
        · cases h2; rfl
        · cases h2
      · cases h2
    · cases h2
  | indexAddr t y i =>
    obtain ⟨_, h2⟩ := ite_none hc
    split at h2
    · obtain ⟨_, _, rfl⟩ := map_some h2; rfl
    · obtain ⟨_, _, rfl⟩ := map_some h2; rfl
    · cases h2
  | index t y i =>
    by_cases hstr : ∃ s, y = .const (.string s)
    · obtain ⟨s, rfl⟩ := hstr
      obtain ⟨_, h2⟩ := ite_none hc
      split at h2
      · cases h2; rfl
      · cases h2
    · have hc' : (if okOpd y && okOpd i then match P.underlying t with
          | some (.array n e) => match aggT P e, sizeT P e with
            | some true, some s => some (XOp.idxn n s y i)
            | some false, some s => if s == 1 then some (.idx1 n y i) else none
            | _, _ => none
          | _ => none else none) = some x := by
        rw [← hc]
        cases y with
        | const u => cases u <;> first | rfl | exact absurd ⟨_, rfl⟩ hstr
        | _ => rfl
      obtain ⟨_, h2⟩ := ite_none hc'
      split at h2
      · split at h2
        · cases h2; rfl
        · obtain ⟨_, rfl⟩ := ite_some h2; rfl
        · cases h2
      · cases h2
  | makeFunc fn first cap =>
    cases fn with
    | func g => obtain ⟨_, rfl⟩ := ite_some hc; rfl
    | _ => simp [compOp] at hc
  | extract y i => obtain ⟨_, rfl⟩ := ite_some hc; rfl
  | panic y => simp [compOp] at hc; subst hc; rfl
  | makeInterface t y => simp [compOp] at hc; subst hc; rfl
  | _ => simp [compOp] at hc

def rdOpd : XOp → Option Operand
  | .load1 y | .loadn _ y | .slca _ _ y _ _ => some y
  | _ => none

/-- What is read hangs on one block alone. -/
theorem read_block {x : XOp} (hcl : cls x = 1) (hx : xop x f h = some (v, h')) : h' = h ∧ ∃ y n off sp, rdOpd x = some y ∧ ev f y = .pointer (some ⟨n, off, sp⟩) ∧ (∃ b, h.get n = some b) ∧
    ∀ h2 : AH, h2.get n = h.get n → xop x f h2 = some (v, h2) := by
  cases x <;> simp [cls] at hcl
  case load1 y =>
    simp only [xop] at hx
    split at hx
    · rename_i n off sp he
      split at hx
      · rename_i u hu
        simp only [Option.some.injEq, Prod.mk.injEq] at hx
        obtain ⟨rfl, rfl⟩ := hx
        obtain ⟨b, hb, _⟩ := Option.bind_eq_some_iff.1 hu
        refine ⟨rfl, y, n, off, sp, rfl, he, ⟨b, hb⟩, fun h2 h3 => ?_⟩
        have : h2.rd1 n off = some u := by unfold AH.rd1; rw [h3]; exact hu
        simp only [xop, he, this]
      · cases hx
    · cases hx
  case loadn k y =>
    simp only [xop] at hx
    split at hx
    · rename_i n off sp he
      split at hx
      · rename_i u hu
        simp only [Option.some.injEq, Prod.mk.injEq] at hx
        obtain ⟨rfl, rfl⟩ := hx
        obtain ⟨b, hb, _⟩ := Option.bind_eq_some_iff.1 hu
        refine ⟨rfl, y, n, off, sp, rfl, he, ⟨b, hb⟩, fun h2 h3 => ?_⟩
        have : h2.rdn n off k = some u := by unfold AH.rdn; rw [h3]; exact hu
        simp only [xop, he, this]
      · cases hx
    · cases hx
  case slca len sz y lo hi =>
    simp only [xop] at hx
    split at hx
    · rename_i n off sp he
      split at hx
      · rename_i b hb
        split at hx
        · rename_i l u hl hu
          obtain ⟨h1, h4⟩ := ite_some hx
          simp only [Prod.mk.injEq] at h4
          obtain ⟨rfl, rfl⟩ := h4
          refine ⟨rfl, y, n, off, sp, rfl, he, ⟨b, hb⟩, fun h2 h3 => ?_⟩
          simp only [xop, he, h3, hb, hl, hu]
          rw [if_pos h1]
        · cases hx
      · cases hx
    · cases hx

theorem load_cells (w : World) (b o : Nat) (cs : List Value) (hc : ∀ j v, cs[j]? = some v → w.cell? ⟨b, o + j, none⟩ = some v) : (loadCells ⟨b, o, none⟩ cs.length).run P w = .ok cs.toArray w :=
  run_loadCells_list (P := P) w ⟨b, o, none⟩ cs (fun j v hv => by rw [add_at]; exact hc j v hv)

theorem read_sound {o : Oper} {x : XOp} (hc : compOp P o.op = some x) (hcl : cls x = 1) (hx : xop x f h = some (v, h')) (hv : VO γ f a o.op.operands) (R : Rel P B γ h w) :
    h' = h ∧ OpPure P γ w a o v := by
  obtain ⟨dst, op, ty, pos, after, guard⟩ := o
  simp only [] at hc hv
  cases op with
  | load t y =>
    obtain ⟨h1, h2⟩ := ite_none hc
    have hy := hv y (by simp [Op.operands]) h1
    split at h2
    · rename_i n ha hs
      cases h2
      simp only [xop] at hx
      split at hx
      · rename_i m off sp he
        rw [he] at hy
        obtain ⟨_, g, hg, e1⟩ := hy.ptr_inv
        split at hx
        · rename_i c hc'
          simp only [Option.some.injEq, Prod.mk.injEq] at hx
          obtain ⟨rfl, rfl⟩ := hx
          obtain ⟨b, hb, h3⟩ := Option.bind_eq_some_iff.1 hc'
          obtain ⟨h4, rfl⟩ := ite_some h3
          obtain ⟨cs, g1, g2⟩ := R.cells hb hg
          have hlen : ((cs.drop off).take n).length = n := by have := g1.1; simp; omega
          have hl := load_cells (P := P) w g.b (g.o + off) ((cs.drop off).take n) (fun j u hu => by
            rw [List.getElem?_take] at hu
            split at hu
            · rw [List.getElem?_drop] at hu
              rw [Nat.add_assoc]
              exact g2 _ _ hu
            · cases hu)
          rw [hlen] at hl
          refine ⟨rfl, .value _, _, ?_, rfl, VR.aggL ((g1.drop off).take n)⟩
          simp [execOp, e1, Instr.loadAt, Instr.sureAddr, loadVar, run_isAgg ha, run_size hs, hl]
        · cases hx
      · cases hx
    · rename_i n ha hs
      cases h2
      simp only [xop] at hx
      split at hx
      · rename_i m off sp he
        rw [he] at hy
        obtain ⟨_, g, hg, e1⟩ := hy.ptr_inv
        split at hx
        · rename_i c hc'
          simp only [Option.some.injEq, Prod.mk.injEq] at hx
          obtain ⟨rfl, rfl⟩ := hx
          obtain ⟨b, hb, h3⟩ := Option.bind_eq_some_iff.1 hc'
          obtain ⟨_, u', h5, h6⟩ := R.cell m b g hb hg off c h3
          refine ⟨rfl, .value u', _, ?_, rfl, h6⟩
          simp [execOp, e1, Instr.loadAt, Instr.sureAddr, loadVar, run_isAgg ha, h5]
        · cases hx
      · cases hx
    · cases h2
  | slice t y lo hi mx =>
    obtain ⟨h1, h2⟩ := ite_none hc
    simp only [Bool.and_eq_true] at h1
    have hy := hv y (by simp [Op.operands]) h1.1.1
    split at h2
    · rename_i e hu
      split at h2
      · split at h2
        · cases h2; simp [cls] at hcl
        · split at h2
          · obtain ⟨_, rfl⟩ := ite_some h2; simp [cls] at hcl
          · cases h2
        · cases h2
      · cases h2
    · rename_i n e hu
      split at h2
      · rename_i z i hz hi'
        obtain ⟨i', y', hi2, _, _, _, _, hpos⟩ := zeroT_some hz
        rw [hi'] at hi2; cases hi2
        have hs : sizeT P e = some i.size := by simp [sizeT, hi']
        split at h2
        · cases h2
          have hlo : ∀ y, lo = some y → VR γ (ev f y) (a.eval y) := by
            rintro q rfl; exact hv q (by simp [Op.operands]) (by simpa using h1.1.2)
          have hhi : ∀ y, hi = some y → VR γ (ev f y) (a.eval y) := by
            rintro q rfl; exact hv q (by simp [Op.operands]) (by simpa using h1.2)
          simp only [xop] at hx
          split at hx
          · rename_i m off sp he
            rw [he] at hy
            obtain ⟨_, g, hg, e1⟩ := hy.ptr_inv
            split at hx
            · rename_i b hb
              split at hx
              · rename_i l u hbl hbu
                obtain ⟨⟨hro, hfull, hall, hl0, hlu, hul⟩, h4⟩ := ite_some hx
                simp only [Prod.mk.injEq] at h4
                obtain ⟨rfl, rfl⟩ := h4
                have bl := bound_run hbl h1.1.2 hlo
                have bu := bound_run hbu h1.2 hhi
                obtain ⟨ho, _, _, _, hcapf, _⟩ := R.rw m b g hb hg hro
                have hcap := hcapf hfull
                have e2 : ∀ l' u' : Nat, l = l' → u = u' → (Instr.sliceAt t (a.eval y) (lo.map a.eval) (hi.map a.eval) ((none : Option Operand).map a.eval)).run P w =
                    .ok (.slice (some ⟨g.b, g.o + off + l' * i.size, none⟩) (u' - l') (n - l')) w := by
                  intro l' u' hl' hu'
                  have hne : ¬ n = l' := by omega
                  have hle : l' ≤ u' := by omega
                  have hle2 : u' ≤ n := by omega
                  rw [e1]
                  rcases bl with ⟨rfl, hz⟩ | ⟨q, k, rfl, hz⟩ <;> rcases bu with ⟨rfl, hz'⟩ | ⟨q', k', rfl, hz'⟩
                  · obtain rfl : l' = 0 := by omega
                    obtain rfl : u' = n := by omega
                    simp [Instr.sliceAt, run_und hu, Instr.sureAddr, Instr.sliceBounds, Instr.sliceBound, asIntOf, run_size hs, hne, add_at]
                  · obtain rfl : l' = 0 := by omega
                    simp [Instr.sliceAt, run_und hu, Instr.sureAddr, Instr.sliceBounds, Instr.sliceBound, asIntOf, run_size hs, hne, add_at, hz', hu', hle2]
                  · obtain rfl : u' = n := by omega
                    simp [Instr.sliceAt, run_und hu, Instr.sureAddr, Instr.sliceBounds, Instr.sliceBound, asIntOf, run_size hs, hne, add_at, hz, hl', hle]
                  · simp [Instr.sliceAt, run_und hu, Instr.sureAddr, Instr.sliceBounds, Instr.sliceBound, asIntOf, run_size hs, hne, add_at, hz, hl', hz', hu', hle, hle2]
                have hr := e2 l.toNat u.toNat (by omega) (by omega)
                refine ⟨rfl, .value _, _, by (simp only [execOp, Sem.run_bind, hr, Result.andThen_ok, Sem.run_pure]; try rfl), rfl, ?_⟩
                have e3 : n - l.toNat = (g.cap - (off + l.toNat * i.size)) / i.size := by
                  rw [hcap, ← hall, Nat.sub_add_eq, Nat.add_sub_cancel_left, ← Nat.sub_mul, Nat.mul_div_cancel _ hpos]
                rw [e3, show u.toNat - l.toNat = (u - l).toNat by omega, Nat.add_assoc]
                refine .slc m (off + l.toNat * i.size) (u - l).toNat i.size g hg hpos ?_
                have : l.toNat * i.size + (u - l).toNat * i.size ≤ n * i.size := by
                  rw [← Nat.add_mul]; exact Nat.mul_le_mul_right _ (by omega)
                omega
              · cases hx
            · cases hx
          · cases hx
        · cases h2
      · cases h2
    · cases h2
  | _ =>
    have := cls_op hc
    simp [clsOk, hcl] at this

end Go.Proofs.Ytnjhhgfpclngcaa.X
