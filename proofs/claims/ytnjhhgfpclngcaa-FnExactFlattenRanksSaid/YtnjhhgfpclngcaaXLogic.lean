/- A logic for the abstract machine: fuel is hidden, code is read by rewriting. -/
import Derived.Test.YtnjhhgfpclngcaaXCall
set_option linter.unusedVariables false
set_option linter.unusedSimpArgs false
namespace Go.Proofs.Ytnjhhgfpclngcaa.X
open Go Go.RowKit

abbrev CallT := FuncId → List Value → AH → Option (Value × AH)
def CLe (C C' : CallT) : Prop := ∀ g a h r, C g a h = some r → C' g a h = some r

theorem xrun_mono {C C' : CallT} (hC : CLe C C') {o : XOp} {f : Fr} {h : AH} {r : Value × AH} (hx : xrun C o f h = some r) : xrun C' o f h = some r := by
  cases o
  case call fo args =>
    simp only [xrun] at hx ⊢
    split at hx
    · split at hx
      · rename_i hi
        rw [if_pos hi]
        exact hC _ _ _ _ hx
      · cases hx
    · cases hx
  all_goals exact hx

theorem xstep_mono {C C' : CallT} (hC : CLe C C') {i : XI} {f : Fr} {h : AH} {r : Fr × AH} (hx : xstep C i f h = some r) : xstep C' i f h = some r := by
  unfold xstep at hx ⊢
  split at hx
  · rename_i hw
    rw [if_pos hw]
    split at hx
    · rename_i v h' he
      rw [xrun_mono hC he]
      exact hx
    · cases hx
  · rename_i hw
    rw [if_neg hw]
    exact hx

theorem xops_mono {C C' : CallT} (hC : CLe C C') : ∀ {ops : List XI} {f : Fr} {h : AH} {r : Fr × AH}, xops C ops f h = some r → xops C' ops f h = some r
  | [], f, h, r, hx => hx
  | i :: rest, f, h, r, hx => by
    simp only [xops] at hx ⊢
    split at hx
    · rename_i f' h' he
      rw [xstep_mono hC he]
      exact xops_mono hC hx
    · cases hx

theorem xloop_mono {B B' : Fr → AH → Option (XE × Fr × AH)} (hB : ∀ f h r, B f h = some r → B' f h = some r) : ∀ {n m : Nat} {f : Fr} {h : AH} {r : XE × Fr × AH}, n ≤ m → xloop B n f h = some r → xloop B' m f h = some r
  | 0, m, f, h, r, hn, hx => by simp [xloop] at hx
  | n + 1, 0, f, h, r, hn, hx => by omega
  | n + 1, m + 1, f, h, r, hn, hx => by
    simp only [xloop] at hx ⊢
    split at hx
    · rename_i f' h' he
      rw [hB _ _ _ he]
      exact xloop_mono hB (by omega) hx
    · rename_i hne
      rw [hB _ _ _ hx]
      obtain ⟨e, f', h'⟩ := r
      cases e
      · exact (hne f' h' hx).elim
      · rfl
      · rfl

theorem xcode_mono {C C' : CallT} (hC : CLe C C') {n m : Nat} (hn : n ≤ m) : ∀ {c : IR} {f : Fr} {h : AH} {r : XE × Fr × AH}, xcode C n c f h = some r → xcode C' m c f h = some r
  | .skip, f, h, r, hx => hx
  | .reg ops, f, h, r, hx => by
    simp only [xcode] at hx ⊢
    split at hx
    · rename_i f' h' he
      rw [xops_mono hC he]
      exact hx
    · cases hx
  | .seq a b, f, h, r, hx => by
    simp only [xcode] at hx ⊢
    split at hx
    · rename_i f' h' he
      rw [xcode_mono hC hn he]
      exact xcode_mono hC hn hx
    · rename_i hne
      rw [xcode_mono hC hn hx]
      obtain ⟨e, f', h'⟩ := r
      cases e
      · exact (hne f' h' hx).elim
      · rfl
      · rfl
  | .cond c a b, f, h, r, hx => by
    simp only [xcode] at hx ⊢
    split at hx
    · exact xcode_mono hC hn hx
    · exact xcode_mono hC hn hx
    · cases hx
  | .blk id a, f, h, r, hx => by
    simp only [xcode] at hx ⊢
    split at hx
    · rename_i id' f' h' he
      rw [xcode_mono hC hn he]
      exact hx
    · rename_i hne
      rw [xcode_mono hC hn hx]
      obtain ⟨e, f', h'⟩ := r
      cases e
      · rfl
      · exact (hne _ f' h' hx).elim
      · rfl
  | .loop a, f, h, r, hx => by
    simp only [xcode] at hx ⊢
    exact xloop_mono (fun f h r hr => xcode_mono hC hn hr) hn hx
  | .exit id, f, h, r, hx => hx
  | .ret, f, h, r, hx => hx

structure XS where
  E : FuncId → Option (List Value → AH → Option (Value × AH))
  T : FuncId → Option XFn

noncomputable abbrev XS.C (S : XS) (k : Nat) : CallT := xcall S.E S.T k

theorem xcall_step (S : XS) : ∀ k, CLe (S.C k) (S.C (k + 1))
  | 0 => fun g a h r hx => by simp [XS.C, xcall] at hx
  | k + 1 => by
    intro g a h r hx
    have ih := xcall_step S k
    simp only [XS.C] at hx ih ⊢
    rw [xcall] at hx ⊢
    split at hx
    · rename_i p hp
      exact hx
    · split at hx
      · cases hx
      · rename_i fn hfn
        split at hx
        · cases hx
        · rename_i e f' h' hne hc
          rw [xcode_mono ih (Nat.le_succ _) hc]
          cases e with
          | exit id => exact (hne id rfl).elim
          | normal => exact hx
          | ret => exact hx
        · cases hx

theorem xcall_mono (S : XS) {k m : Nat} (hk : k ≤ m) : CLe (S.C k) (S.C m) := by
  induction hk with
  | refl => exact fun g a h r hx => hx
  | step _ ih => exact fun g a h r hx => xcall_step S _ g a h r (ih g a h r hx)

/-! ### What is reached -/
def WF (S : XS) (g : FuncId) (args : List Value) (h : AH) (Q : Value → AH → Prop) : Prop := ∃ k v h', xcall S.E S.T k g args h = some (v, h') ∧ Q v h'
def WO (S : XS) (ops : List XI) (f : Fr) (h : AH) (Q : Fr → AH → Prop) : Prop := ∃ k f' h', xops (S.C k) ops f h = some (f', h') ∧ Q f' h'
def WC (S : XS) (c : IR) (f : Fr) (h : AH) (Q : XE → Fr → AH → Prop) : Prop := ∃ k e f' h', xcode (S.C k) k c f h = some (e, f', h') ∧ Q e f' h'
def OQ (r : Option (Value × AH)) (Q : Value → AH → Prop) : Prop := ∃ v h', r = some (v, h') ∧ Q v h'
def WX (S : XS) (o : XOp) (f : Fr) (h : AH) (Q : Value → AH → Prop) : Prop := ∃ k v h', xrun (S.C k) o f h = some (v, h') ∧ Q v h'

theorem WF.mono {S : XS} {g : FuncId} {args : List Value} {h : AH} {Q Q' : Value → AH → Prop} (hw : WF S g args h Q) (hq : ∀ v h', Q v h' → Q' v h') : WF S g args h Q' := by
  obtain ⟨k, v, h', h1, h2⟩ := hw
  exact ⟨k, v, h', h1, hq v h' h2⟩
theorem WC.mono {S : XS} {c : IR} {f : Fr} {h : AH} {Q Q' : XE → Fr → AH → Prop} (hw : WC S c f h Q) (hq : ∀ e f h', Q e f h' → Q' e f h') : WC S c f h Q' := by
  obtain ⟨k, e, f', h', h1, h2⟩ := hw
  exact ⟨k, e, f', h', h1, hq e f' h' h2⟩

@[congr] theorem OQ_congr {r r' : Option (Value × AH)} {Q : Value → AH → Prop} (e : r = r') : OQ r Q = OQ r' Q := by rw [e]
theorem OQ_some {v : Value} {h : AH} {Q : Value → AH → Prop} : OQ (some (v, h)) Q = Q v h := by
  apply propext
  constructor
  · rintro ⟨v', h', e, q⟩
    cases e
    exact q
  · exact fun q => ⟨v, h, rfl, q⟩
theorem OQ_ite {c : Prop} [Decidable c] {v : Value} {h : AH} {Q : Value → AH → Prop} : OQ (if c then some (v, h) else none) Q = (c ∧ Q v h) := by
  apply propext
  split
  · rename_i hc
    rw [OQ_some]
    exact ⟨fun q => ⟨hc, q⟩, fun q => q.2⟩
  · rename_i hc
    exact ⟨fun ⟨_, _, e, _⟩ => (by cases e), fun q => (hc q.1).elim⟩

theorem WO_nil {S : XS} {f : Fr} {h : AH} {Q : Fr → AH → Prop} : WO S [] f h Q = Q f h := by
  apply propext
  constructor
  · rintro ⟨k, f', h', e, q⟩
    cases e
    exact q
  · exact fun q => ⟨0, f, h, rfl, q⟩

theorem WO_run {S : XS} {d : Option Nat} {o : XOp} {g : Option (Nat × Bool)} {q : Bool} {rest : List XI} {f : Fr} {h : AH} {Q : Fr → AH → Prop} (hw : want f g = true) :
    WO S (⟨d, o, g, q⟩ :: rest) f h Q = WX S o f h (fun v h' => (q = true → h <+: h') ∧ WO S rest (updo f d v) h' Q) := by
  apply propext
  constructor
  · rintro ⟨k, f', h', e, p⟩
    simp only [xops] at e
    split at e
    · rename_i f1 h1 he
      unfold xstep at he
      rw [if_pos hw] at he
      split at he
      · rename_i v h2 hr
        split at he
        · rename_i hq
          simp only [Option.some.injEq, Prod.mk.injEq] at he
          obtain ⟨rfl, rfl⟩ := he
          exact ⟨k, v, h2, hr, hq, k, f', h', e, p⟩
        · cases he
      · cases he
    · cases e
  · rintro ⟨k, v, h1, hr, hq, k', f', h', e, p⟩
    refine ⟨max k k', f', h', ?_, p⟩
    simp only [xops]
    have h3 : xstep (S.C (max k k')) ⟨d, o, g, q⟩ f h = some (updo f d v, h1) := by
      unfold xstep
      rw [if_pos hw, xrun_mono (xcall_mono S (Nat.le_max_left k k')) hr]
      simp only
      rw [if_pos hq]
    rw [h3]
    exact xops_mono (xcall_mono S (Nat.le_max_right k k')) e

theorem WO_not {S : XS} {d : Option Nat} {o : XOp} {g : Option (Nat × Bool)} {q : Bool} {rest : List XI} {f : Fr} {h : AH} {Q : Fr → AH → Prop} (hw : want f g = false) :
    WO S (⟨d, o, g, q⟩ :: rest) f h Q = WO S rest (updo f d undef) h Q := by
  have h3 : ∀ k, xstep (S.C k) ⟨d, o, g, q⟩ f h = some (updo f d undef, h) := by
    intro k
    unfold xstep
    rw [if_neg (by rw [hw]; simp)]
  unfold WO
  simp only [xops, h3]

/-- An operation without a guard that may change blocks. -/
theorem WO_free {S : XS} {d : Option Nat} {o : XOp} {rest : List XI} {f : Fr} {h : AH} {Q : Fr → AH → Prop} :
    WO S (⟨d, o, none, false⟩ :: rest) f h Q = WX S o f h (fun v h' => WO S rest (updo f d v) h' Q) := by
  rw [WO_run rfl]
  simp
theorem WO_calm {S : XS} {d : Option Nat} {o : XOp} {rest : List XI} {f : Fr} {h : AH} {Q : Fr → AH → Prop} :
    WO S (⟨d, o, none, true⟩ :: rest) f h Q = WX S o f h (fun v h' => h <+: h' ∧ WO S rest (updo f d v) h' Q) := by
  rw [WO_run rfl]
  simp

/-- A guarded operation: the guard's value stands first. -/
def WG (S : XS) (v : Value) (b : Bool) (i : XI) (rest : List XI) (f : Fr) (h : AH) (Q : Fr → AH → Prop) : Prop := match v with
  | .bool c => if c = b then WO S (⟨i.d, i.o, none, i.q⟩ :: rest) f h Q else WO S rest (updo f i.d undef) h Q
  | _ => WO S rest (updo f i.d undef) h Q
@[congr] theorem WG_congr {S : XS} {v v' : Value} {b : Bool} {i : XI} {rest : List XI} {f : Fr} {h : AH} {Q : Fr → AH → Prop} (e : v = v') : WG S v b i rest f h Q = WG S v' b i rest f h Q := by rw [e]
theorem WO_guard {S : XS} {d : Option Nat} {o : XOp} {s : Nat} {b q : Bool} {rest : List XI} {f : Fr} {h : AH} {Q : Fr → AH → Prop} :
    WO S (⟨d, o, some (s, b), q⟩ :: rest) f h Q = WG S (f s) b ⟨d, o, none, q⟩ rest f h Q := by
  unfold WG
  split
  · rename_i c hc
    split
    · rename_i e
      rw [WO_run (by simp [want, hc, e]), WO_run rfl]
    · rename_i e
      rw [WO_not (by simp [want, hc, e])]
  · rename_i hne
    rw [WO_not]
    unfold want
    split
    · rename_i h1
      cases h1
    · rename_i s' b' h1
      cases h1
      split
      · rename_i c hc
        exact (hne c hc).elim
      · rfl
theorem WG_tt {S : XS} {i : XI} {rest : List XI} {f : Fr} {h : AH} {Q : Fr → AH → Prop} : WG S (.bool true) true i rest f h Q = WO S (⟨i.d, i.o, none, i.q⟩ :: rest) f h Q := rfl
theorem WG_ff {S : XS} {i : XI} {rest : List XI} {f : Fr} {h : AH} {Q : Fr → AH → Prop} : WG S (.bool false) false i rest f h Q = WO S (⟨i.d, i.o, none, i.q⟩ :: rest) f h Q := rfl
theorem WG_tf {S : XS} {i : XI} {rest : List XI} {f : Fr} {h : AH} {Q : Fr → AH → Prop} : WG S (.bool true) false i rest f h Q = WO S rest (updo f i.d undef) h Q := rfl
theorem WG_ft {S : XS} {i : XI} {rest : List XI} {f : Fr} {h : AH} {Q : Fr → AH → Prop} : WG S (.bool false) true i rest f h Q = WO S rest (updo f i.d undef) h Q := rfl

theorem WX_op {S : XS} {o : XOp} {f : Fr} {h : AH} {Q : Value → AH → Prop} (ho : ∀ C, xrun C o f h = xop o f h) : WX S o f h Q = OQ (xop o f h) Q := by
  unfold WX OQ
  simp only [ho]
  apply propext
  exact ⟨fun ⟨_, v, h', e, q⟩ => ⟨v, h', e, q⟩, fun ⟨v, h', e, q⟩ => ⟨0, v, h', e, q⟩⟩

theorem WX_call {S : XS} {fo : Operand} {args : List Operand} {f : Fr} {h : AH} {Q : Value → AH → Prop} {g : FuncId} {cap : Array Value} (he : ev f fo = .func (.func g) #[] cap) :
    WX S (.call fo args) f h Q = WF S g (args.map (ev f) ++ cap.toList) h Q := by
  unfold WX WF
  simp only [xrun, he]
  rfl
theorem WX_callf {S : XS} {g : FuncId} {args : List Operand} {f : Fr} {h : AH} {Q : Value → AH → Prop} :
    WX S (.call (.func g) args) f h Q = WF S g (args.map (ev f)) h Q := by
  rw [WX_call (g := g) (cap := #[]) rfl]
  simp

/-! ### Code -/
def SeqQ (S : XS) (b : IR) (Q : XE → Fr → AH → Prop) : XE → Fr → AH → Prop
  | .normal, f, h => WC S b f h Q
  | .exit id, f, h => Q (.exit id) f h
  | .ret, f, h => Q .ret f h
def BlkQ (id : Nat) (Q : XE → Fr → AH → Prop) : XE → Fr → AH → Prop
  | .normal, f, h => Q .normal f h
  | .exit id', f, h => if id' = id then Q .normal f h else Q (.exit id') f h
  | .ret, f, h => Q .ret f h
def RegQ (Q : XE → Fr → AH → Prop) : Fr → AH → Prop := fun f h => Q .normal f h
def IfW (b : Value) (A B : Prop) : Prop := match b with
  | .bool true => A
  | .bool false => B
  | _ => False
@[congr] theorem IfW_congr {b b' : Value} {A B : Prop} (e : b = b') : IfW b A B = IfW b' A B := by rw [e]
theorem IfW_t {A B : Prop} : IfW (.bool true) A B = A := rfl
theorem IfW_f {A B : Prop} : IfW (.bool false) A B = B := rfl
theorem IfW_dec {p : Prop} [Decidable p] {A B : Prop} : IfW (.bool (decide p)) A B ↔ (p → A) ∧ (¬ p → B) := by
  by_cases hp : p <;> simp [hp, IfW]
theorem IfW_b {b : Bool} {A B : Prop} : IfW (.bool b) A B ↔ (b = true → A) ∧ (b = false → B) := by
  cases b <;> simp [IfW]

theorem WC_skip {S : XS} {f : Fr} {h : AH} {Q : XE → Fr → AH → Prop} : WC S .skip f h Q = Q .normal f h := by
  apply propext
  exact ⟨fun ⟨k, e, f', h', h1, h2⟩ => by cases h1; exact h2, fun q => ⟨0, _, _, _, rfl, q⟩⟩
theorem WC_exit {S : XS} {id : Nat} {f : Fr} {h : AH} {Q : XE → Fr → AH → Prop} : WC S (.exit id) f h Q = Q (.exit id) f h := by
  apply propext
  exact ⟨fun ⟨k, e, f', h', h1, h2⟩ => by cases h1; exact h2, fun q => ⟨0, _, _, _, rfl, q⟩⟩
theorem WC_ret {S : XS} {f : Fr} {h : AH} {Q : XE → Fr → AH → Prop} : WC S .ret f h Q = Q .ret f h := by
  apply propext
  exact ⟨fun ⟨k, e, f', h', h1, h2⟩ => by cases h1; exact h2, fun q => ⟨0, _, _, _, rfl, q⟩⟩
theorem WC_reg {S : XS} {ops : List XI} {f : Fr} {h : AH} {Q : XE → Fr → AH → Prop} : WC S (.reg ops) f h Q = WO S ops f h (RegQ Q) := by
  apply propext
  constructor
  · rintro ⟨k, e, f', h', h1, h2⟩
    simp only [xcode] at h1
    split at h1
    · rename_i f1 h3 h4
      cases h1
      exact ⟨k, _, _, h4, h2⟩
    · cases h1
  · rintro ⟨k, f', h', h1, h2⟩
    refine ⟨k, .normal, f', h', ?_, h2⟩
    simp only [xcode, h1]
theorem WC_seq {S : XS} {a b : IR} {f : Fr} {h : AH} {Q : XE → Fr → AH → Prop} : WC S (.seq a b) f h Q = WC S a f h (SeqQ S b Q) := by
  apply propext
  constructor
  · rintro ⟨k, e, f', h', h1, h2⟩
    simp only [xcode] at h1
    split at h1
    · rename_i f1 h3 h4
      exact ⟨k, _, _, _, h4, k, _, _, _, h1, h2⟩
    · rename_i hne
      refine ⟨k, e, f', h', h1, ?_⟩
      cases e
      · exact (hne _ _ h1).elim
      · exact h2
      · exact h2
  · rintro ⟨k, e, f', h', h1, h2⟩
    cases e with
    | normal =>
      obtain ⟨k', e1, f1, h3, h4, h5⟩ := h2
      refine ⟨max k k', e1, f1, h3, ?_, h5⟩
      simp only [xcode]
      rw [xcode_mono (xcall_mono S (Nat.le_max_left k k')) (Nat.le_max_left k k') h1]
      exact xcode_mono (xcall_mono S (Nat.le_max_right k k')) (Nat.le_max_right k k') h4
    | exit id =>
      refine ⟨k, .exit id, f', h', ?_, h2⟩
      simp only [xcode, h1]
    | ret =>
      refine ⟨k, .ret, f', h', ?_, h2⟩
      simp only [xcode, h1]
theorem WC_cond {S : XS} {c : Operand} {a b : IR} {f : Fr} {h : AH} {Q : XE → Fr → AH → Prop} : WC S (.cond c a b) f h Q = IfW (ev f c) (WC S a f h Q) (WC S b f h Q) := by
  unfold WC IfW
  simp only [xcode]
  split
  · rename_i e
    simp only [e]
  · rename_i e
    simp only [e]
  · rename_i hne1 hne2
    apply propext
    refine ⟨fun ⟨k, e, f', h', h1, h2⟩ => (by cases h1), fun q => ?_⟩
    split at q
    · rename_i e
      exact (hne1 e).elim
    · rename_i e
      exact (hne2 e).elim
    · exact q.elim
theorem WC_blk {S : XS} {id : Nat} {a : IR} {f : Fr} {h : AH} {Q : XE → Fr → AH → Prop} : WC S (.blk id a) f h Q = WC S a f h (BlkQ id Q) := by
  apply propext
  constructor
  · rintro ⟨k, e, f', h', h1, h2⟩
    simp only [xcode] at h1
    split at h1
    · rename_i id' f1 h3 h4
      refine ⟨k, _, _, _, h4, ?_⟩
      unfold BlkQ
      simp only
      split at h1
      · rename_i he
        cases h1
        rw [if_pos he]
        exact h2
      · rename_i he
        cases h1
        rw [if_neg he]
        exact h2
    · rename_i hne
      refine ⟨k, e, f', h', h1, ?_⟩
      cases e
      · exact h2
      · exact (hne _ _ _ h1).elim
      · exact h2
  · rintro ⟨k, e, f', h', h1, h2⟩
    cases e with
    | normal =>
      refine ⟨k, .normal, f', h', ?_, h2⟩
      simp only [xcode, h1]
    | exit id' =>
      simp only [BlkQ] at h2
      split at h2
      · rename_i he
        refine ⟨k, .normal, f', h', ?_, h2⟩
        simp only [xcode, h1, he, if_true]
      · rename_i he
        refine ⟨k, .exit id', f', h', ?_, h2⟩
        simp only [xcode, h1, he, if_false]
    | ret =>
      refine ⟨k, .ret, f', h', ?_, h2⟩
      simp only [xcode, h1]

/-- A turn of a loop, then the rest of it. -/
def LoopQ (S : XS) (a : IR) (Q : XE → Fr → AH → Prop) : XE → Fr → AH → Prop
  | .normal, f, h => WC S (.loop a) f h Q
  | .exit id, f, h => Q (.exit id) f h
  | .ret, f, h => Q .ret f h
theorem WC_loop {S : XS} {a : IR} {f : Fr} {h : AH} {Q : XE → Fr → AH → Prop} (hw : WC S a f h (LoopQ S a Q)) : WC S (.loop a) f h Q := by
  obtain ⟨k, e, f', h', h1, h2⟩ := hw
  cases e with
  | normal =>
    obtain ⟨k', e1, f1, h3, h4, h5⟩ := h2
    refine ⟨max k k' + 1, e1, f1, h3, ?_, h5⟩
    simp only [xcode] at h4 ⊢
    simp only [xloop]
    rw [xcode_mono (xcall_mono S (show k ≤ max k k' + 1 by omega)) (show k ≤ max k k' + 1 by omega) h1]
    exact xloop_mono (fun f h r hr => xcode_mono (xcall_mono S (by omega)) (by omega) hr) (by omega) h4
  | exit id =>
    refine ⟨k + 1, _, _, _, ?_, h2⟩
    simp only [xcode, xloop]
    rw [xcode_mono (xcall_mono S (show k ≤ k + 1 by omega)) (show k ≤ k + 1 by omega) h1]
  | ret =>
    refine ⟨k + 1, _, _, _, ?_, h2⟩
    simp only [xcode, xloop]
    rw [xcode_mono (xcall_mono S (show k ≤ k + 1 by omega)) (show k ≤ k + 1 by omega) h1]

/-- A loop by an invariant that bears a number that goes down. -/
def InvQ (I : Nat → Fr → AH → Prop) (n : Nat) (Q : XE → Fr → AH → Prop) : XE → Fr → AH → Prop
  | .normal, f, h => ∃ m, m < n ∧ I m f h
  | .exit id, f, h => Q (.exit id) f h
  | .ret, f, h => Q .ret f h
theorem WC_loop_inv {S : XS} {a : IR} {Q : XE → Fr → AH → Prop} (I : Nat → Fr → AH → Prop) (step : ∀ n f h, I n f h → WC S a f h (InvQ I n Q)) : ∀ n f h, I n f h → WC S (.loop a) f h Q := by
  intro n
  induction n using Nat.strongRecOn with
  | _ n ih =>
    intro f h hI
    refine WC_loop ((step n f h hI).mono fun e f' h' q => ?_)
    cases e with
    | normal =>
      obtain ⟨m, hm, hI'⟩ := q
      exact ih m hm f' h' hI'
    | exit id => exact q
    | ret => exact q

/-- The end of a function. -/
def RetQ (rs : List XRes) (Q : Value → AH → Prop) : XE → Fr → AH → Prop
  | .exit _, _, _ => False
  | _, f, h => OQ ((xres f h rs).map (·, h)) Q
theorem WF_fn {S : XS} {g : FuncId} {fn : XFn} {args : List Value} {h : AH} {Q : Value → AH → Prop} (hE : S.E g = none) (hT : S.T g = some fn)
    (hw : WC S fn.body (fun j => args.getD j undef) h (RetQ fn.res Q)) : WF S g args h Q := by
  obtain ⟨k, e, f', h', h1, h2⟩ := hw
  cases e with
  | exit id => exact h2.elim
  | normal =>
    obtain ⟨v, h3, h4, h5⟩ := h2
    obtain ⟨u, hu, e⟩ := Option.map_eq_some_iff.1 h4
    cases e
    refine ⟨k + 1, v, h', ?_, h5⟩
    simp only [xcall, hE, hT]
    rw [xcode_mono (fun g a h r hr => hr) (Nat.le_succ k) h1]
    simp only [hu]
  | ret =>
    obtain ⟨v, h3, h4, h5⟩ := h2
    obtain ⟨u, hu, e⟩ := Option.map_eq_some_iff.1 h4
    cases e
    refine ⟨k + 1, v, h', ?_, h5⟩
    simp only [xcall, hE, hT]
    rw [xcode_mono (fun g a h r hr => hr) (Nat.le_succ k) h1]
    simp only [hu]

theorem tsound_of_all {P : Program} {tab : List (Nat × XFn)} (hs : ∀ p ∈ tab, ∃ fn, P.funcs[p.1]? = some fn ∧ compFn P fn = some p.2) : TSound P (fun g => tab.lookup g) := by
  intro g x hx
  have gen : ∀ l : List (Nat × XFn), l.lookup g = some x → (g, x) ∈ l := by
    intro l
    induction l with
    | nil => intro h; simp at h
    | cons p l ih =>
      intro h
      obtain ⟨a, b⟩ := p
      rw [List.lookup_cons] at h
      split at h
      · rename_i e
        have e' : g = a := by simpa using e
        cases h
        subst e'
        exact List.mem_cons_self
      · exact List.mem_cons_of_mem _ (ih h)
  exact hs (g, x) (gen tab hx)

end Go.Proofs.Ytnjhhgfpclngcaa.X
