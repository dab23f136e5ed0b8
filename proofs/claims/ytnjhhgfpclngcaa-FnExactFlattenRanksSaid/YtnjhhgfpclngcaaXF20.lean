/- Copies by append onto an empty slice: slices.Clone. -/
import Derived.Test.YtnjhhgfpclngcaaXF19
set_option linter.unusedVariables false
set_option linter.unusedSimpArgs false
set_option maxRecDepth 20000
set_option maxHeartbeats 4000000
namespace Go.Proofs.Ytnjhhgfpclngcaa.X
open Go Go.RowKit

def isnilV (neg : Bool) (x : Value) : Option Value := match x with
  | .slice none 0 0 => some (.bool (!neg))
  | .slice (some _) _ _ => some (.bool neg)
  | _ => none
theorem isnilV_nil {neg : Bool} : isnilV neg (.slice none 0 0) = some (.bool (!neg)) := rfl
theorem isnilV_some {neg : Bool} {a : Addr} {n c : Nat} : isnilV neg (.slice (some a) n c) = some (.bool neg) := rfl
theorem WX_isnil {S : XS} {f : Fr} {h : AH} {Q : Value → AH → Prop} {neg : Bool} {x : Operand} : WX S (.isnil neg x) f h Q = WV (isnilV neg (ev f x)) fun v => Q v h := by
  rw [WX_op (fun _ => rfl)]
  have : xop (.isnil neg x) f h = (isnilV neg (ev f x)).map (·, h) := by
    simp only [xop, isnilV]
    split <;> simp_all
  rw [this]
  cases isnilV neg (ev f x) <;> simp [OQ_some, WV_some, OQ_none, WV_none]

theorem Ints.vals {h : AH} {v : Value} {ns : List Int} (hv : Ints h v ns) : Vals h v (ns.map (Value.int .i64)) := by
  rcases hv with ⟨rfl, t, ht, rfl⟩ | ⟨b, off, blk, rfl, h2, h3, h4⟩
  · exact .inl ⟨rfl, t, ht, rfl⟩
  · refine .inr ⟨b, off, blk, by simp, h2, by simpa using h3, fun i hi => ?_⟩
    have hi' : i < ns.length := by simpa using hi
    rw [h4 i hi']
    simp [List.getD_eq_getElem?_getD, List.getElem?_map, List.getElem?_eq_getElem hi']
theorem Vals.rdn {h : AH} {v : Value} {cs : List Value} (hv : Vals h v cs) (h0 : 0 < cs.length) : ∃ n off, v = .slice (some ⟨n, off, none⟩) cs.length 1 ∧ h.rdn n off cs.length = some cs := by
  rcases hv with ⟨rfl, t, _, rfl⟩ | ⟨b, off, blk, rfl, h2, h3, h4⟩
  · simp at h0
  · refine ⟨b, off, rfl, ?_⟩
    rw [rdn_of h2, if_pos h3]
    congr 1
    refine List.ext_getElem? fun j => ?_
    by_cases hj : j < cs.length
    · rw [List.getElem?_take, if_pos hj, List.getElem?_drop, h4 j hj, List.getD_eq_getElem?_getD, List.getElem?_eq_getElem hj]
      rfl
    · rw [List.getElem?_eq_none (by simp; omega), List.getElem?_eq_none (by omega)]
theorem app_zero {e : TypeId} {bytes : Nat} {h : AH} {k n' off m : Nat} {news : List Value} {full : Bool} (hk : h.get k = some ⟨[], e, false, full⟩) (hn : h.rdn n' off m = some news) (hm : 0 < m)
    (hs : (m : Int) * bytes ≤ 140737488355328 ∧ (m : Int) ≤ 9223372036854775807) :
    appV e 1 bytes (.slice (some ⟨k, 0, none⟩) 0 1) (.slice (some ⟨n', off, none⟩) m 1) h = some (.slice (some ⟨h.length, 0, none⟩) m 1, (h.kill k).new ⟨news, e, false, false⟩) := by
  simp only [appV, xop, ev, if_true, Nat.mul_one, hn, hk]
  rw [if_pos (by simpa using hs), if_neg (by omega)]
  simp

theorem OwnR.of {h0 h : AH} {v : Value} {ns : List Int} {n : Nat} {e : TypeId} {full : Bool} (h1 : h0.length ≤ n) (e1 : v = .slice (some ⟨n, 0, none⟩) ns.length 1) (hb : h.get n = some ⟨ns.map (Value.int .i64), e, false, full⟩) : OwnR h0 h v ns := .inr ⟨n, e, full, h1, e1, hb⟩
theorem i_CloneInts {v : Value} {ns : List Int} {h : AH} {Q : Value → AH → Prop} (hv : Ints h v ns) (h0 : 0 < ns.length) (hl : (ns.length : Int) ≤ 1048576)
    (hQ : ∀ v' h', h <+: h' → OwnR h h' v' ns → Q v' h') : WF S 102 [v] h Q := by
  refine WF_fn (fn := c102) rfl rfl ?_
  unfold c102
  obtain ⟨n, off, rfl, hr⟩ := hv.vals.rdn (by simpa using h0)
  try simp (maxSteps := 3000000) (disch := first | omega | (simp only [len_new, len_put, len_kill]; omega)) only [↓xpre, xpost, ↓reduceIte, Nat.reduceEqDiff, Nat.reduceAdd, Nat.reduceSub, Nat.reduceLeDiff, Nat.zero_add, Nat.sub_zero, ↓WX_isnil, isnilV_some, fillL, zrep]
  rw [List.length_map] at hr ⊢
  rw [app_zero get_new_same (show AH.rdn (AH.new h _) n off ns.length = _ by rw [rdn_eq] at hr ⊢; obtain ⟨b, hb, hc⟩ := Option.bind_eq_some_iff.1 hr; rw [get_new_any hb]; exact hc) h0 (by omega)]
  try simp (maxSteps := 3000000) (disch := first | omega | (simp only [len_new, len_put, len_kill]; omega)) only [↓xpre, xpost, ↓reduceIte, Nat.reduceEqDiff, Nat.reduceAdd, Nat.reduceSub, Nat.reduceLeDiff, Nat.zero_add, Nat.sub_zero]
  exact hQ _ _ (pre_new (pre_kill (pre_new (List.prefix_refl _)) (Nat.le_refl _))) (OwnR.of (by rw [len_new]; omega) rfl (get_new_eq (by rw [len_kill])))
end Go.Proofs.Ytnjhhgfpclngcaa.X
