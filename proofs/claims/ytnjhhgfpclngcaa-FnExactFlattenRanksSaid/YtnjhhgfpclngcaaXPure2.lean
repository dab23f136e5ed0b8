/- The abstract machine's soundness, part 6: the operations that touch no block, all together; those that read. -/
import Derived.Test.YtnjhhgfpclngcaaXOps
set_option linter.unusedVariables false
set_option linter.unusedSimpArgs false
namespace Go.Proofs.Ytnjhhgfpclngcaa.X
open Go Go.RowKit

variable {P : Program} {B : Nat} {γ : List G} {h h' : AH} {w : World} {f : Fr} {a : Act} {v : Value}

theorem run_und {t : TypeId} {d : TypeDesc} (hd : P.underlying t = some d) (w : World) : (underlying t).run P w = .ok d w := run_underlying hd w

theorem add_at (b o n : Nat) : (⟨b, o, none⟩ : Addr).add n = ⟨b, o + n, none⟩ := by unfold Addr.add; split <;> simp_all

theorem part_run {t : TypeId} {b : Bool} {n : Nat} (h1 : aggT P t = some b) (h2 : sizeT P t = some n) (cs : Array Value) (off : Nat) (w : World) :
    (part t cs off).run P w = if b then .ok (.agg (cs.extract off (off + n))) w else match cs[off]? with
      | some v => .ok v w
      | none => .halt (.stuck "part: no such cell") w := by
  cases b
  · simp only [part, Sem.run_bind, run_isAgg h1, Result.andThen_ok, Bool.false_eq_true, if_false]
    cases cs[off]? <;> rfl
  · simp only [part, Sem.run_bind, run_isAgg h1, Result.andThen_ok, if_true, run_size h2, Sem.run_pure]

theorem VRL.extract {xs ys : Array Value} (hh : VRL γ xs.toList ys.toList) (off n : Nat) : VRL γ ((xs.toList.drop off).take n) (ys.extract off (off + n)).toList := by
  have e : (ys.extract off (off + n)).toList = (ys.toList.drop off).take n := by
    rw [Array.toList_extract]
    show List.extract _ _ _ = _
    unfold List.extract
    rw [Nat.add_sub_cancel_left]
  rw [e]
  exact (hh.drop off).take n

theorem slc_lit (A : Option Addr) (len cap size l u : Nat) (t e : TypeId) (lo hi : Option Value) (hu : P.underlying t = some (.slice e)) (hs : sizeT P e = some size)
    (hlo : (lo = none ∧ l = 0) ∨ ∃ k, lo = some (.int k l)) (hhi : (hi = none ∧ u = len) ∨ ∃ k, hi = some (.int k u)) (h1 : l ≤ u) (h2 : u ≤ cap) (w : World) :
    (Instr.sliceAt t (.slice A len cap) lo hi none).run P w = .ok (.slice (if cap = l then A else A.map (·.add (l * size))) (u - l) (cap - l)) w := by
  have hlu : l ≤ u := h1
  rcases hlo with ⟨rfl, rfl⟩ | ⟨k, rfl⟩ <;> rcases hhi with ⟨rfl, rfl⟩ | ⟨k', rfl⟩ <;>
    simp [Instr.sliceAt, run_und hu, Instr.slice, Instr.sliceBounds, Instr.sliceBound, asIntOf, run_size hs, h2, hlu]

theorem pure_sound {o : Oper} {x : XOp} (hc : compOp P o.op = some x) (hcl : cls x = 0) (hx : xop x f h = some (v, h')) (hv : VO γ f a o.op.operands) :
    h' = h ∧ OpPure P γ w a o v := by
  obtain ⟨dst, op, ty, pos, after, guard⟩ := o
  simp only [] at hc hv
  cases op with
  | move y =>
    obtain ⟨h1, rfl⟩ := ite_some (by simpa [compOp] using hc)
    simp only [xop, Option.some.injEq, Prod.mk.injEq] at hx
    obtain ⟨rfl, rfl⟩ := hx
    exact ⟨rfl, .value _, _, rfl, rfl, hv y (by simp [Op.operands]) h1⟩
  | assign y =>
    obtain ⟨h1, rfl⟩ := ite_some (by simpa [compOp] using hc)
    simp only [xop, Option.some.injEq, Prod.mk.injEq] at hx
    obtain ⟨rfl, rfl⟩ := hx
    exact ⟨rfl, .value _, _, rfl, rfl, hv y (by simp [Op.operands]) h1⟩
  | pick c y z =>
    obtain ⟨h1, rfl⟩ := ite_some hc
    simp only [Bool.and_eq_true] at h1
    have hcv := hv c (by simp [Op.operands]) h1.1.1
    simp only [xop] at hx
    split at hx
    · rename_i t ht
      rw [ht] at hcv
      simp only [Option.some.injEq, Prod.mk.injEq] at hx
      obtain ⟨rfl, rfl⟩ := hx
      refine ⟨rfl, .value (if t then a.eval y else a.eval z), _, by simp [execOp, hcv.bool_inv, asBool], rfl, ?_⟩
      cases t
      · exact hv z (by simp [Op.operands]) h1.2
      · exact hv y (by simp [Op.operands]) h1.1.2
    · cases hx
  | build t parts =>
    simp only [compOp] at hc
    split at hc
    · rename_i z fs hz hu
      obtain ⟨h1, h2⟩ := ite_none hc
      obtain ⟨l, hl, rfl⟩ := map_some h2
      simp only [xop] at hx
      split at hx
      · rename_i c hf
        obtain ⟨h3, h4⟩ := ite_some hx
        simp only [Prod.mk.injEq] at h4
        obtain ⟨rfl, rfl⟩ := h4
        obtain ⟨cs, h5, h6⟩ := build_run (γ := γ) (a := a) (w := w) hz (.inl ⟨fs, hu, h1⟩) hl hf (fun p hp => hv p.2 (by simp [Op.operands]; exact ⟨p.1, by simpa using hp⟩))
        exact ⟨rfl, .value _, _, by simp only [execOp, Sem.run_bind, h5, Result.andThen_ok, Sem.run_pure], rfl, VR.aggL h6⟩
      · cases hx
    · rename_i z n e hz hu
      obtain ⟨h1, h2⟩ := ite_none hc
      obtain ⟨l, hl, rfl⟩ := map_some h2
      simp only [xop] at hx
      split at hx
      · rename_i c hf
        obtain ⟨h3, h4⟩ := ite_some hx
        simp only [Prod.mk.injEq] at h4
        obtain ⟨rfl, rfl⟩ := h4
        obtain ⟨cs, h5, h6⟩ := build_run (γ := γ) (a := a) (w := w) hz (.inr ⟨n, e, hu, h1⟩) hl hf (fun p hp => hv p.2 (by simp [Op.operands]; exact ⟨p.1, by simpa using hp⟩))
        exact ⟨rfl, .value _, _, by simp only [execOp, Sem.run_bind, h5, Result.andThen_ok, Sem.run_pure], rfl, VR.aggL h6⟩
      · cases hx
    · cases hc
  | binOp op t y z yt =>
    obtain ⟨h1, h2⟩ := ite_none hc
    simp only [Bool.and_eq_true] at h1
    have hy := hv y (by simp [Op.operands]) h1.1
    have hz := hv z (by simp [Op.operands]) h1.2
    split at h2
    · rename_i k hu
      cases h2
      simp only [xop] at hx
      obtain ⟨r, hr, hr2⟩ := map_some hx
      simp only [Prod.mk.injEq] at hr2
      obtain ⟨rfl, rfl⟩ := hr2
      obtain ⟨k1, m1, k2, m2, e1, e2⟩ := xbin_int hr
      rw [e1] at hy hr
      rw [e2] at hz hr
      have hrun := bin_run (P := P) w op t y z _ _ r hy.int_inv hz.int_inv hr
      refine ⟨rfl, .value r, r, ?_, rfl, ?_⟩
      · simp only [execOp, Sem.run_bind] at hrun ⊢
        rw [hrun]; rfl
      · cases op <;> simp only [xbin] at hr <;> (obtain ⟨_, rfl⟩ := ite_some hr) <;> constructor
    · rename_i hu
      have key : ∀ neg, op = (if neg then BinOp.neq else .eql) → x = .eqb neg y z → h' = h ∧ OpPure P γ w a ⟨dst, .binOp op t y z yt, ty, pos, after, guard⟩ v := by
        rintro neg rfl rfl
        simp only [xop] at hx
        split at hx
        · rename_i p q hp hq
          rw [hp] at hy
          rw [hq] at hz
          simp only [Option.some.injEq, Prod.mk.injEq] at hx
          obtain ⟨rfl, rfl⟩ := hx
          have hrun := eqb_run (P := P) w neg t y z p q hy.bool_inv hz.bool_inv hu
          refine ⟨rfl, .value _, _, ?_, rfl, .bool _⟩
          simp only [execOp, Sem.run_bind] at hrun ⊢
          rw [hrun]; rfl
        · cases hx
      cases op <;> simp only [Option.some.injEq, reduceCtorEq] at h2
      · exact key false rfl h2.symm
      · exact key true rfl h2.symm
    · rename_i m e hu
      split at h2
      · rename_i k n hf hg
        have key : ∀ neg, op = (if neg then BinOp.neq else .eql) → x = .eqa neg n y z → h' = h ∧ OpPure P γ w a ⟨dst, .binOp op t y z yt, ty, pos, after, guard⟩ v := by
          rintro neg rfl rfl
          simp only [xop] at hx
          split at hx
          · rename_i xs ys hp hq
            split at hx
            · rename_i k1 as k2 bs h3 h4
              obtain ⟨⟨rfl, h6, h7⟩, h5⟩ := ite_some hx
              simp only [Prod.mk.injEq] at h5
              obtain ⟨rfl, rfl⟩ := h5
              rw [hp] at hy
              rw [hq] at hz
              obtain ⟨xs', e1, g1⟩ := hy.agg_inv
              obtain ⟨ys', e2, g2⟩ := hz.agg_inv
              rw [intsOf_some h3] at g1
              rw [intsOf_some h4] at g2
              have e3 : xs' = (as.map (Value.int k1)).toArray := by rw [← g1.ints]
              have e4 : ys' = (bs.map (Value.int k1)).toArray := by rw [← g2.ints]
              have hrun := eqa_run (P := P) w neg t y z k1 as bs n k m e (e1.trans (by rw [e3])) (e2.trans (by rw [e4])) hu hf hg h6 h7
              refine ⟨rfl, .value _, _, ?_, rfl, .bool _⟩
              simp only [execOp, Sem.run_bind] at hrun ⊢
              rw [hrun]; rfl
            · cases hx
          · cases hx
        cases op <;> simp only [Option.some.injEq, reduceCtorEq] at h2
        · exact key false rfl h2.symm
        · exact key true rfl h2.symm
      · cases h2
    · rename_i e hu
      split at h2
      · have key : ∀ neg, op = (if neg then BinOp.neq else .eql) → x = .isnil neg y → h' = h ∧ OpPure P γ w a ⟨dst, .binOp op t y (.const (.slice none 0 0)) yt, ty, pos, after, guard⟩ v := by
          rintro neg rfl rfl
          have done : ∀ (A : Option Addr) n c, a.eval y = .slice A n c → v = .bool (A.isNone != neg) → h' = h → h' = h ∧ OpPure P γ w a ⟨dst, .binOp (if neg then BinOp.neq else .eql) t y (.const (.slice none 0 0)) yt, ty, pos, after, guard⟩ v := by
            rintro A n c e1 rfl e2
            have hrun := isnil_run (P := P) (a := a) w neg t y (.const (.slice none 0 0)) A n c e e1 rfl hu
            refine ⟨e2, .value _, _, ?_, rfl, .bool _⟩
            simp only [execOp, Sem.run_bind] at hrun ⊢
            rw [hrun]; rfl
          simp only [xop] at hx
          split at hx
          · rename_i he
            rw [he] at hy
            obtain ⟨_, h3⟩ := hy.nil_inv
            simp at h3
            simp only [Option.some.injEq, Prod.mk.injEq] at hx
            obtain ⟨rfl, rfl⟩ := hx
            exact done none 0 0 h3 (by cases neg <;> rfl) rfl
          · rename_i ad n c he
            rw [he] at hy
            obtain ⟨ad1, ad2, ad3⟩ := ad
            obtain ⟨_, g, _, _, _, e1⟩ := hy.slc_inv
            simp only [Option.some.injEq, Prod.mk.injEq] at hx
            obtain ⟨rfl, rfl⟩ := hx
            exact done _ _ _ e1 (by cases neg <;> rfl) rfl
          · cases hx
        cases op <;> simp only [Option.some.injEq, reduceCtorEq] at h2
        · exact key false rfl h2.symm
        · exact key true rfl h2.symm
      · cases h2
    · cases h2
  | unOp op t y =>
    obtain ⟨h1, rfl⟩ := ite_some hc
    have hy := hv y (by simp [Op.operands]) h1
    simp only [xop] at hx
    obtain ⟨r, hr, hr2⟩ := map_some hx
    simp only [Prod.mk.injEq] at hr2
    obtain ⟨rfl, rfl⟩ := hr2
    unfold xun at hr
    split at hr
    · rename_i b he
      rw [he] at hy
      cases hr
      exact ⟨rfl, .value _, _, by simp [execOp, hy.bool_inv, Op.unary], rfl, .bool _⟩
    · rename_i k n he
      rw [he] at hy
      cases hr
      exact ⟨rfl, .value _, _, by simp [execOp, hy.int_inv, Op.unary, Op.intArith], rfl, .int _ _⟩
    · cases hr
  | convert s d y =>
    obtain ⟨h1, h2⟩ := ite_none hc
    have hy := hv y (by simp [Op.operands]) h1
    split at h2
    · rename_i k1 k2 hs hd
      cases h2
      simp only [xop] at hx
      split at hx
      · rename_i k n he
        rw [he] at hy
        simp only [Option.some.injEq, Prod.mk.injEq] at hx
        obtain ⟨rfl, rfl⟩ := hx
        exact ⟨rfl, .value _, _, by simp [execOp, hy.int_inv, convert, run_und hs, run_und hd, Conv.intToInt], rfl, .int _ _⟩
      · cases hx
    · cases h2
  | fieldAddr s y fi =>
    obtain ⟨h1, h2⟩ := ite_none hc
    have hy := hv y (by simp [Op.operands]) h1
    split at h2
    · rename_i fs hu
      split at h2
      · rename_i fd hfd
        split at h2
        · rename_i i hi
          obtain ⟨h3, rfl⟩ := ite_some h2
          simp only [xop] at hx
          split at hx
          · rename_i n off sp he
            rw [he] at hy
            obtain ⟨_, g, hg, e1⟩ := hy.ptr_inv
            simp only [Option.some.injEq, Prod.mk.injEq] at hx
            obtain ⟨rfl, rfl⟩ := hx
            refine ⟨rfl, .value (.pointer (some ⟨g.b, g.o + (off + fd.offset), none⟩)), _, ?_, rfl, .ptr n (off + fd.offset) g hg⟩
            have hne : i.size ≠ 0 := by omega
            simp [execOp, e1, Instr.fieldAt, run_und hu, hfd, Instr.sureAddr, fieldPlace, sizeOf, typeInfo, hi, hne, add_at, Nat.add_assoc]
          · cases hx
        · cases h2
      · cases h2
    · cases h2
  | field t y fi =>
    obtain ⟨h1, h2⟩ := ite_none hc
    have hy := hv y (by simp [Op.operands]) h1
    split at h2
    · rename_i fs hu
      split at h2
      · rename_i fd hfd
        split at h2
        · rename_i n ha hs
          cases h2
          simp only [xop] at hx
          split at hx
          · rename_i cs he
            rw [he] at hy
            obtain ⟨ys, e1, g1⟩ := hy.agg_inv
            obtain ⟨h3, h4⟩ := ite_some hx
            simp only [Prod.mk.injEq] at h4
            obtain ⟨rfl, rfl⟩ := h4
            refine ⟨rfl, .value (.agg (ys.extract fd.offset (fd.offset + n))), _, ?_, rfl, ?_⟩
            · simp [execOp, e1, Instr.field, run_und hu, hfd, asAgg, part_run ha hs]
            · have := VR.aggL (g1.extract fd.offset n)
              rw [Array.toArray_toList] at this
              exact this
          · cases hx
        · rename_i n ha hs
          cases h2
          simp only [xop] at hx
          split at hx
          · rename_i cs he
            rw [he] at hy
            obtain ⟨ys, e1, g1⟩ := hy.agg_inv
            split at hx
            · rename_i u hu'
              simp only [Option.some.injEq, Prod.mk.injEq] at hx
              obtain ⟨rfl, rfl⟩ := hx
              obtain ⟨u', h3, h4⟩ := g1.get hu'
              refine ⟨rfl, .value u', _, ?_, rfl, h4⟩
              have h5 : ys[fd.offset]? = some u' := by simpa using h3
              simp [execOp, e1, Instr.field, run_und hu, hfd, asAgg, part_run ha hs, h5]
            · cases hx
          · cases hx
        · cases h2
      · cases h2
    · cases h2
  | indexAddr t y i =>
    obtain ⟨h1, h2⟩ := ite_none hc
    simp only [Bool.and_eq_true] at h1
    have hy := hv y (by simp [Op.operands]) h1.1
    have hi := hv i (by simp [Op.operands]) h1.2
    split at h2
    · rename_i n e hu
      obtain ⟨s, hs, rfl⟩ := map_some h2
      simp only [xop] at hx
      split at hx
      · rename_i m off sp k j he hj
        rw [he] at hy
        rw [hj] at hi
        obtain ⟨_, g, hg, e1⟩ := hy.ptr_inv
        obtain ⟨⟨h3, h3'⟩, h4⟩ := ite_some hx
        simp only [Prod.mk.injEq] at h4
        obtain ⟨rfl, rfl⟩ := h4
        refine ⟨rfl, .value (.pointer (some ⟨g.b, g.o + (off + j.toNat * s), none⟩)), _, ?_, rfl, .ptr _ _ g hg⟩
        simp [execOp, e1, hi.int_inv, Instr.indexAt, asIntOf, run_und hu, Instr.sureAddr, h3, h3', run_size hs, add_at, Nat.add_assoc]
      · cases hx
    · rename_i e hu
      obtain ⟨s, hs, rfl⟩ := map_some h2
      simp only [xop] at hx
      split at hx
      · rename_i m off sp len sz k j he hj
        rw [he] at hy
        rw [hj] at hi
        obtain ⟨_, g, hg, hsz, hcap, e1⟩ := hy.slc_inv
        obtain ⟨⟨h3, h3', rfl⟩, h4⟩ := ite_some hx
        simp only [Prod.mk.injEq] at h4
        obtain ⟨rfl, rfl⟩ := h4
        refine ⟨rfl, .value (.pointer (some ⟨g.b, g.o + (off + j.toNat * sz), none⟩)), _, ?_, rfl, .ptr _ _ g hg⟩
        simp [execOp, e1, hi.int_inv, Instr.indexAt, asIntOf, run_und hu, h3, h3', run_size hs, add_at, Nat.add_assoc]
      · cases hx
    · cases h2
  | index t y i =>
    by_cases hstr : ∃ s, y = .const (.string s)
    · obtain ⟨s, rfl⟩ := hstr
      obtain ⟨h1, h2⟩ := ite_none hc
      have hi := hv i (by simp [Op.operands]) h1
      split at h2
      · rename_i hu
        cases h2
        simp only [xop] at hx
        split at hx
        · rename_i k j hj
          rw [hj] at hi
          obtain ⟨h3, h4⟩ := ite_none hx
          split at h4
          · rename_i b hb
            simp only [Option.some.injEq, Prod.mk.injEq] at h4
            obtain ⟨rfl, rfl⟩ := h4
            simp only [List.getElem?_map, Option.map_eq_some_iff] at hb
            obtain ⟨c, hc1, rfl⟩ := hb
            have hlt : j.toNat < s.size := by
              have := (List.getElem?_eq_some_iff.1 hc1).1
              simpa using this
            have hget : s[j.toNat]? = some c := by
              rw [getElem?_pos s j.toNat hlt]
              have := (List.getElem?_eq_some_iff.1 hc1).2
              rw [← this]; rfl
            refine ⟨rfl, .value _, _, ?_, rfl, .int _ _⟩
            have ec : a.eval (.const (.string s)) = .string s := rfl
            simp [execOp, ec, hi.int_inv, Instr.index, asIntOf, run_und hu, h3, hget]
          · cases h4
        · cases hx
      · cases h2
    · have hc' : (if okOpd y && okOpd i then match P.underlying t with
          | some (.array n e) => match aggT P e, sizeT P e with
            | some true, some s => some (XOp.idxn n s y i)
            | some false, some s => if s == 1 then some (.idx1 n y i) else none
            | _, _ => none
          | _ => none else none) = some x := by
        rw [← hc]
        cases y with
        | const u => cases u <;> first | rfl | exact absurd ⟨_, rfl⟩ hstr
        | _ => rfl
      obtain ⟨h1, h2⟩ := ite_none hc'
      simp only [Bool.and_eq_true] at h1
      have hy := hv y (by simp [Op.operands]) h1.1
      have hi := hv i (by simp [Op.operands]) h1.2
      split at h2
      · rename_i n e hu
        split at h2
        · rename_i s ha hs
          cases h2
          simp only [xop] at hx
          split at hx
          · rename_i cs k j he hj
            rw [he] at hy
            rw [hj] at hi
            obtain ⟨ys, e1, g1⟩ := hy.agg_inv
            obtain ⟨⟨h3, h3', h5⟩, h4⟩ := ite_some hx
            simp only [Prod.mk.injEq] at h4
            obtain ⟨rfl, rfl⟩ := h4
            refine ⟨rfl, .value (.agg (ys.extract (j.toNat * s) (j.toNat * s + s))), _, ?_, rfl, ?_⟩
            · simp [execOp, e1, hi.int_inv, Instr.index, asIntOf, run_und hu, h3, h3', run_size hs, part_run ha hs]
            · have := VR.aggL (g1.extract (j.toNat * s) s)
              rw [Array.toArray_toList] at this
              exact this
          · cases hx
        · rename_i s ha hs
          obtain ⟨hs1, rfl⟩ := ite_some h2
          have hs1 : s = 1 := by simpa using hs1
          subst hs1
          simp only [xop] at hx
          split at hx
          · rename_i cs k j he hj
            rw [he] at hy
            rw [hj] at hi
            obtain ⟨ys, e1, g1⟩ := hy.agg_inv
            obtain ⟨⟨h3, h3'⟩, h4⟩ := ite_none hx
            split at h4
            · rename_i u hu'
              simp only [Option.some.injEq, Prod.mk.injEq] at h4
              obtain ⟨rfl, rfl⟩ := h4
              obtain ⟨u', h5, h6⟩ := g1.get hu'
              have h7 : ys[j.toNat]? = some u' := by simpa using h5
              refine ⟨rfl, .value u', _, ?_, rfl, h6⟩
              simp [execOp, e1, hi.int_inv, Instr.index, asIntOf, run_und hu, h3, h3', run_size hs, part_run ha hs, h7]
            · cases h4
          · cases hx
        · cases h2
      · cases h2
  | slice t y lo hi mx =>
    obtain ⟨h1, h2⟩ := ite_none hc
    simp only [Bool.and_eq_true] at h1
    have hy := hv y (by simp [Op.operands]) h1.1.1
    split at h2
    · rename_i e hu
      split at h2
      · rename_i z i hz hi'
        obtain ⟨i', y', hi2, _, _, _, _, hpos⟩ := zeroT_some hz
        rw [hi'] at hi2; cases hi2
        have hs : sizeT P e = some i.size := by simp [sizeT, hi']
        split at h2
        · cases h2
          simp only [xop] at hx
          have hlo : ∀ y, lo = some y → VR γ (ev f y) (a.eval y) := by
            rintro q rfl; exact hv q (by simp [Op.operands]) (by simpa using h1.1.2)
          have hhi : ∀ y, hi = some y → VR γ (ev f y) (a.eval y) := by
            rintro q rfl; exact hv q (by simp [Op.operands]) (by simpa using h1.2)
          split at hx
          · rename_i n off sp len sz he
            rw [he] at hy
            obtain ⟨_, g, hg, hsz, hcap, e1⟩ := hy.slc_inv
            split at hx
            · rename_i l u hbl hbu
              have bl := bound_run hbl h1.1.2 hlo
              have bu := bound_run hbu h1.2 hhi
              have hcl : len ≤ (g.cap - off) / sz := by rw [Nat.le_div_iff_mul_le hsz]; omega
              have run : ∀ (l' u' : Nat), l = l' → u = u' → sz = i.size → l' ≤ u' → u' ≤ len →
                  (Instr.sliceAt t (a.eval y) (lo.map a.eval) (hi.map a.eval) ((none : Option Operand).map a.eval)).run P w = .ok (.slice (if (g.cap - off) / sz = l' then some ⟨g.b, g.o + off, none⟩ else some ⟨g.b, g.o + off + l' * sz, none⟩) (u' - l') ((g.cap - off) / sz - l')) w := by
                intro l' u' hl' hu' hsz' h3 h4
                rw [e1]
                have := slc_lit (P := P) (some ⟨g.b, g.o + off, none⟩) len ((g.cap - off) / sz) i.size l' u' t e (lo.map a.eval) (hi.map a.eval) hu hs (by
                  rcases bl with ⟨rfl, hz⟩ | ⟨q, k, rfl, hz⟩
                  · left; exact ⟨rfl, by omega⟩
                  · right; exact ⟨k, by simp [hz, hl']⟩) (by
                  rcases bu with ⟨rfl, hz⟩ | ⟨q, k, rfl, hz⟩
                  · left; exact ⟨rfl, by omega⟩
                  · right; exact ⟨k, by simp [hz, hu']⟩) h3 (by omega) w
                rw [show ((none : Option Operand).map a.eval) = none from rfl, this, Option.map_some, add_at, hsz']
              by_cases hA : sz = i.size ∧ 0 ≤ l ∧ l < u ∧ u ≤ len
              · rw [if_pos hA] at hx
                obtain ⟨rfl, hl0, hlu, hul⟩ := hA
                simp only [Option.some.injEq, Prod.mk.injEq] at hx
                obtain ⟨rfl, rfl⟩ := hx
                have hr := run l.toNat u.toNat (by omega) (by omega) rfl (by omega) (by omega)
                rw [if_neg (by omega)] at hr
                refine ⟨rfl, .value _, _, by (simp only [execOp, Sem.run_bind, hr, Result.andThen_ok, Sem.run_pure]; try rfl), rfl, ?_⟩
                have e2 : (g.cap - off) / i.size - l.toNat = (g.cap - (off + l.toNat * i.size)) / i.size := by
                  rw [Nat.sub_add_eq, Nat.mul_comm l.toNat, Nat.sub_mul_div]
                rw [e2, show u.toNat - l.toNat = (u - l).toNat by omega, Nat.add_assoc]
                refine .slc n (off + l.toNat * i.size) (u - l).toNat i.size g hg hsz ?_
                have : l.toNat * i.size + (u - l).toNat * i.size ≤ len * i.size := by
                  rw [← Nat.add_mul]; exact Nat.mul_le_mul_right _ (by omega)
                omega
              · rw [if_neg hA] at hx
                obtain ⟨⟨rfl, hl0, rfl, hul⟩, h4⟩ := ite_some hx
                simp only [Prod.mk.injEq] at h4
                obtain ⟨rfl, rfl⟩ := h4
                have hr := run l.toNat l.toNat (by omega) (by omega) rfl (Nat.le_refl _) (by omega)
                refine ⟨rfl, .value _, _, by (simp only [execOp, Sem.run_bind, hr, Result.andThen_ok, Sem.run_pure]; try rfl), rfl, ?_⟩
                rw [Nat.sub_self]
                exact .emp _ _
            · cases hx
          · rename_i tt he
            rw [he] at hy
            obtain ⟨_, h3⟩ := hy.nil_inv
            split at hx
            · rename_i l u hbl hbu
              obtain ⟨⟨rfl, rfl⟩, h4⟩ := ite_some hx
              simp only [Prod.mk.injEq] at h4
              obtain ⟨rfl, rfl⟩ := h4
              have bl := bound_run hbl h1.1.2 hlo
              have bu := bound_run hbu h1.2 hhi
              have run : ∀ (A : Option Addr) (c : Nat), a.eval y = .slice A 0 c →
                  (Instr.sliceAt t (a.eval y) (lo.map a.eval) (hi.map a.eval) ((none : Option Operand).map a.eval)).run P w = .ok (.slice A 0 c) w := by
                intro A c e1
                rw [e1]
                have := slc_lit (P := P) A 0 c i.size 0 0 t e (lo.map a.eval) (hi.map a.eval) hu hs (by
                  rcases bl with ⟨rfl, hz⟩ | ⟨q, k, rfl, hz⟩
                  · left; exact ⟨rfl, rfl⟩
                  · right; exact ⟨k, by simp [hz]⟩) (by
                  rcases bu with ⟨rfl, hz⟩ | ⟨q, k, rfl, hz⟩
                  · left; exact ⟨rfl, rfl⟩
                  · right; exact ⟨k, by simp [hz]⟩) (Nat.le_refl _) (Nat.zero_le _) w
                rw [show ((none : Option Operand).map a.eval) = none from rfl, this]
                congr 2
                · cases A with
                  | none => simp
                  | some q => simp [Addr.add]
              rcases h3 with ⟨rfl, e1⟩ | ⟨rfl, A, c, e1⟩ | ⟨rfl, A, e1⟩
              · exact ⟨rfl, .value _, _, by (simp only [execOp, Sem.run_bind, run _ _ e1, Result.andThen_ok, Sem.run_pure]; try rfl), rfl, .nils⟩
              · exact ⟨rfl, .value _, _, by (simp only [execOp, Sem.run_bind, run _ _ e1, Result.andThen_ok, Sem.run_pure]; try rfl), rfl, .emp _ _⟩
              · exact ⟨rfl, .value _, _, by (simp only [execOp, Sem.run_bind, run _ _ e1, Result.andThen_ok, Sem.run_pure]; try rfl), rfl, .zcap _⟩
            · cases hx
          · cases hx
        · rename_i k m
          split at h2
          · rename_i k' hh
            obtain ⟨h3, rfl⟩ := ite_some h2
            simp only [Bool.and_eq_true, beq_iff_eq] at h3
            obtain ⟨rfl, rfl⟩ := h3
            have done : ∀ (A : Option Addr) n c, a.eval y = .slice A n c → v = .slice none 0 2 → h' = h → h' = h ∧ OpPure P γ w a ⟨dst, .slice t y none (some (.const (.int k' 0))) (some (.const (.int k 0))), ty, pos, after, guard⟩ v := by
              rintro A n c e1 rfl e2
              refine ⟨e2, .value (.slice A 0 0), _, ?_, rfl, .zcap A⟩
              simp [execOp, e1, show ∀ v, a.eval (.const v) = v from fun _ => rfl, Instr.sliceAt, run_und hu, Instr.slice, Instr.sliceBounds, Instr.sliceBound, asIntOf, run_size hs]
            simp only [xop] at hx
            split at hx
            · rename_i ad n c he
              rw [he] at hy
              obtain ⟨q, cc, e1, _⟩ := hy.len_inv
              simp only [Option.some.injEq, Prod.mk.injEq] at hx
              exact done _ _ _ e1 hx.1.symm hx.2.symm
            · rename_i c he
              rw [he] at hy
              obtain ⟨q, cc, e1, _⟩ := hy.len_inv
              simp only [Option.some.injEq, Prod.mk.injEq] at hx
              exact done _ _ _ e1 hx.1.symm hx.2.symm
            · cases hx
          · cases h2
        · cases h2
      · cases h2
    · rename_i n e hu
      split at h2
      · split at h2
        · cases h2; simp [cls] at hcl
        · cases h2
      · cases h2
    · cases h2
  | makeFunc fn first cap =>
    cases fn with
    | func g =>
      obtain ⟨h1, rfl⟩ := ite_some hc
      simp only [Bool.and_eq_true] at h1
      have hf1 : first = #[] := by simpa using h1.1
      subst hf1
      simp only [xop, Option.some.injEq, Prod.mk.injEq] at hx
      obtain ⟨rfl, rfl⟩ := hx
      refine ⟨rfl, .value (.func (.func g) #[] (cap.map a.eval)), _, by simp [execOp, Instr.makeFunc], rfl, .func g _ _ (by simp) ?_⟩
      intro i u u' hu hu'
      simp only [List.getElem?_toArray, List.getElem?_map, Option.map_eq_some_iff, Array.getElem?_toList] at hu
      simp only [Array.getElem?_map, Option.map_eq_some_iff] at hu'
      obtain ⟨y, h3, rfl⟩ := hu
      obtain ⟨y', h4, rfl⟩ := hu'
      rw [h3] at h4; cases h4
      exact hv y (by simp [Op.operands]; exact Array.mem_of_getElem? h3) (List.all_eq_true.1 h1.2 y (by simpa using Array.mem_of_getElem? h3))
    | _ => simp [compOp] at hc
  | extract y i =>
    obtain ⟨h1, rfl⟩ := ite_some hc
    have hy := hv y (by simp [Op.operands]) h1
    simp only [xop] at hx
    split at hx
    · rename_i vs he
      rw [he] at hy
      obtain ⟨ys, e1, g1⟩ := hy.tuple_inv
      split at hx
      · rename_i u hu'
        simp only [Option.some.injEq, Prod.mk.injEq] at hx
        obtain ⟨rfl, rfl⟩ := hx
        obtain ⟨u', h5, h6⟩ := g1.get hu'
        have h7 : ys[i]? = some u' := by simpa using h5
        exact ⟨rfl, .value u', _, by simp [execOp, e1, Instr.extract, h7], rfl, h6⟩
      · cases hx
    · cases hx
  | call c =>
    obtain ⟨callee, args, argTypes⟩ := c
    cases callee with
    | value fo =>
      obtain ⟨h1, rfl⟩ := ite_some hc
      simp [cls] at hcl
    | invoke r m => simp [compOp, compCall] at hc
    | builtin b =>
      cases b <;> simp only [compOp, compCall, reduceCtorEq] at hc
      case len =>
        split at hc
        · rename_i y t hargs htys
          have ha : args = #[y] := by rw [← Array.toArray_toList (xs := args), hargs]
          have ht : argTypes = #[t] := by rw [← Array.toArray_toList (xs := argTypes), htys]
          subst ha ht
          split at hc
          · rename_i e hu
            obtain ⟨h1, rfl⟩ := ite_some hc
            have hy := hv y (by simp [Op.operands, Call.operands]) h1
            simp only [xop] at hx
            split at hx
            · rename_i A n c he
              rw [he] at hy
              obtain ⟨q, cc, e1, _⟩ := hy.len_inv
              simp only [Option.some.injEq, Prod.mk.injEq] at hx
              obtain ⟨rfl, rfl⟩ := hx
              exact ⟨rfl, .value _, _, by simp [execOp, resolve, invoke, builtin, e1, Builtin.len_, run_und hu, goInt], rfl, .int _ _⟩
            · cases hx
          · rename_i n e hu
            cases hc
            simp only [xop, ev, Option.some.injEq, Prod.mk.injEq] at hx
            obtain ⟨rfl, rfl⟩ := hx
            exact ⟨rfl, .value _, _, by simp [execOp, resolve, invoke, builtin, Builtin.len_, run_und hu, goInt], rfl, .int _ _⟩
          · cases hc
        · cases hc
      case append =>
        split at hc
        · split at hc
          · split at hc
            · obtain ⟨h1, rfl⟩ := ite_some hc
              simp [cls] at hcl
            · cases hc
          · cases hc
        · cases hc
      case max =>
        split at hc
        · rename_i y l hargs
          have ha : args = (y :: l).toArray := by rw [← Array.toArray_toList (xs := args), hargs]
          subst ha
          obtain ⟨h1, rfl⟩ := ite_some hc
          simp only [Bool.and_eq_true] at h1
          have hy := hv y (by simp [Op.operands, Call.operands]) h1.1
          simp only [xop] at hx
          split at hx
          · rename_i k p he
            rw [he] at hy
            obtain ⟨r, hr, hr2⟩ := map_some hx
            simp only [Prod.mk.injEq] at hr2
            obtain ⟨rfl, rfl⟩ := hr2
            have := xmm_run (P := P) w k true l p r hr (fun q hq => hv q (by simp [Op.operands, Call.operands, hq]) (List.all_eq_true.1 h1.2 q hq))
            simp only [if_true] at this
            refine ⟨rfl, .value _, _, ?_, rfl, .int k r⟩
            simp [execOp, resolve, invoke, builtin, Builtin.max_, hy.int_inv, this]
          · cases hx
        · cases hc
      case min =>
        split at hc
        · rename_i y l hargs
          have ha : args = (y :: l).toArray := by rw [← Array.toArray_toList (xs := args), hargs]
          subst ha
          obtain ⟨h1, rfl⟩ := ite_some hc
          simp only [Bool.and_eq_true] at h1
          have hy := hv y (by simp [Op.operands, Call.operands]) h1.1
          simp only [xop] at hx
          split at hx
          · rename_i k p he
            rw [he] at hy
            obtain ⟨r, hr, hr2⟩ := map_some hx
            simp only [Prod.mk.injEq] at hr2
            obtain ⟨rfl, rfl⟩ := hr2
            have := xmm_run (P := P) w k false l p r hr (fun q hq => hv q (by simp [Op.operands, Call.operands, hq]) (List.all_eq_true.1 h1.2 q hq))
            simp only [Bool.false_eq_true, if_false] at this
            refine ⟨rfl, .value _, _, ?_, rfl, .int k r⟩
            simp [execOp, resolve, invoke, builtin, Builtin.min_, hy.int_inv, this]
          · cases hx
        · cases hc
  | panic y => simp [compOp] at hc; subst hc; simp [xop] at hx
  | makeInterface t y => simp [compOp] at hc; subst hc; simp [xop] at hx
  | alloc e => obtain ⟨z, _, rfl⟩ := map_some hc; simp [cls] at hcl
  | box e y => obtain ⟨_, rfl⟩ := ite_some hc; simp [cls] at hcl
  | buildSlice t n parts =>
    simp only [compOp] at hc
    split at hc
    · split at hc
      · obtain ⟨_, h2⟩ := ite_none hc
        obtain ⟨l, _, rfl⟩ := map_some h2
        simp [cls] at hcl
      · cases hc
    · cases hc
  | load t y =>
    obtain ⟨_, h2⟩ := ite_none hc
    split at h2
    · cases h2; simp [cls] at hcl
    · cases h2; simp [cls] at hcl
    · cases h2
  | store t y z =>
    obtain ⟨_, h2⟩ := ite_none hc
    obtain ⟨n, _, rfl⟩ := map_some h2
    simp [cls] at hcl
  | makeSlice t l c =>
    simp only [compOp] at hc
    split at hc
    · split at hc
      · obtain ⟨_, rfl⟩ := ite_some hc
        simp [cls] at hcl
      · cases hc
    · cases hc
  | _ => simp [compOp] at hc

end Go.Proofs.Ytnjhhgfpclngcaa.X
