/- Texts of one claim, put together by merge.py: XSound, XCall, XLogic, XSimp. -/
import Derived.Test.YtapafdpnmakekaaSI2
set_option linter.unusedVariables false
set_option linter.unusedSimpArgs false
namespace Go.Proofs.Ytapafdpnmakekaa.X
open Go Go.RowKit
variable {P : Program} {B : Nat} {γ γ0 : List G} {h h' h0 : AH} {w w0 : World} {f f' : Fr} {a a0 : Act} {v v' : Value} {C : FuncId → List Value → AH → Option (Value × AH)} {nt : Nat}
theorem marked_get (ms : List Nat) (ys : List XI) (i : Nat) (y : XI) (hy : ys[i]? = some y) : (marked P ms ys)[i]? = some { y with q := owes P ms ys i y.o } := by
  have hl := (List.getElem?_eq_some_iff.1 hy).1
  simp only [marked, List.getElem?_map, List.getElem?_range hl, Option.map_some, hy]
theorem others_mem {ms : List Nat} {ys : List XI} {i j : Nat} {p : XOp → Bool} {y : XI} {a : Operand} (hji : j < i) (hy : ys[j]? = some y) (hp : p y.o = true) (hno : ordered ms i j = false) (ha : adrOf y.o = some a) : a ∈ others ms ys i p := by
  unfold others
  rw [List.mem_filterMap]
  refine ⟨j, by simpa using hji, ?_⟩
  simp only [hy, hp, hno, Bool.not_false, Bool.and_self, if_true, ha]
theorem openTo_of {ms : List Nat} {ys : List XI} {i j : Nat} {p : XOp → Bool} {y : XI} (hj : ys[j]? = some y) (hp : p y.o = true) (hno : ordered ms i j = false) : openTo ms ys i p = true := by
  unfold openTo
  rw [List.any_eq_true]
  refine ⟨j, by simpa using (List.getElem?_eq_some_iff.1 hj).1, ?_⟩
  simp [hj, hp, hno]
theorem moves_cls {x : XOp} (h : moves P x = true) : 3 ≤ cls x := by
  cases x <;> simp [moves] at h <;> simp [cls]
theorem moves_adr {x : XOp} (h : moves P x = true) : ∃ a, adrOf x = some a := by
  cases x <;> simp [moves] at h
  case store n a x => exact ⟨a, rfl⟩
  case call f l =>
    cases l with
    | nil => cases f <;> simp [moves] at h
    | cons a l => exact ⟨a, rfl⟩
theorem rd_adr {x : XOp} {y : Operand} (h : rdOpd x = some y) : adrOf x = some y := by
  cases x <;> simp [rdOpd] at h <;> simp [adrOf, h]
theorem ordered_symm {ms : List Nat} {i j : Nat} (hne : i ≠ j) : ordered ms i j = ordered ms j i := by
  unfold ordered
  rcases Nat.lt_or_gt_of_ne hne with h | h
  · rw [if_pos h, if_neg (by omega)]
  · rw [if_neg (by omega), if_pos h]
theorem store_kp {n : Nat} {a x : Operand} {f : Fr} {h h' : AH} {v : Value} (hx : xop (.store n a x) f h = some (v, h')) : ∃ m, blkV (ev f a) = some m ∧ Kp m h h' := by
  simp only [xop] at hx
  split at hx
  · rename_i m off sp he
    obtain ⟨_, h4⟩ := ite_none hx
    split at h4
    · rename_i h2 hw
      simp only [Option.some.injEq, Prod.mk.injEq] at h4
      obtain ⟨_, rfl⟩ := h4
      obtain ⟨b, hb, _, _, rfl⟩ := wr_some hw
      refine ⟨m, by rw [he]; rfl, by simp, fun k _ hk => ?_⟩
      unfold AH.get
      rw [List.getElem?_set_ne (Ne.symm hk)]
    · cases h4
  · cases hx
theorem less_get (fs : List Fused) (xs : List XI) (i : Nat) (hi : i < xs.length) : (lessFused fs xs)[i]? = some (if fs.any (fun f => f.i == i || f.j == i) then nop else xs.getD i nop) := by
  simp [lessFused, List.getElem?_range hi]
theorem fusedOps_fine : ∀ (l : List Fused) (fc fN : Fr) (hc : AH) (r : Fr × AH), xops C (fusedOps l) fc hc = some r → (∀ z ∈ l, ∀ z' ∈ l, z'.x ≠ .tmp z.d) → (∀ z ∈ l, ev fc z.x = ev fN z.x) →
    ∀ z ∈ l, (ev fN z.x).cells.toList.length = z.n ∧ (ev fN z.x).cells.toList.all isOne = true
  | [], _, _, _, _, _, _, _, z, hz => by simp at hz
  | y :: l, fc, fN, hc, r, hx, hne, hev, z, hz => by
    simp only [fusedOps, List.map_cons, xops] at hx
    split at hx
    · rename_i f1 h1 hst
      rcases xstep_some hst with ⟨_, v, hr, _, rfl⟩ | ⟨hw, _, _⟩
      · simp only [xrun, xop] at hr
        obtain ⟨q1, _⟩ := ite_some hr
        rcases List.mem_cons.1 hz with rfl | hz
        · rw [← hev z (by simp)]; exact q1
        · refine fusedOps_fine l _ fN _ r hx (fun a ha b hb => hne a (by simp [ha]) b (by simp [hb])) (fun z' hz' => ?_) z hz
          rw [← hev z' (by simp [hz'])]
          have := hne y (by simp) z' (by simp [hz'])
          cases hzx : z'.x with
          | tmp k =>
            have : k ≠ y.d := fun e => this (by rw [hzx, e])
            simp [ev, updo, upd, this]
          | _ => rfl
      · simp [want] at hw
    · cases hx
theorem drawn_rel (R : Rel P B γ h w) : Rel P B γ h { w with drawn := w.drawn + 1 } := R.drew
theorem zap_d (x : XI) : (zap x).d = x.d := by unfold zap; split <;> rfl
theorem zap_g (x : XI) : (zap x).g = x.g := by unfold zap; split <;> rfl
theorem zap_o (x : XI) : (zap x).o = x.o ∨ (∃ e sz z, x.o = .bslice e sz 0 z []) ∧ (zap x).o = .mkz := by
  unfold zap
  split
  · rename_i e sz z h
    exact .inr ⟨⟨e, sz, z, h⟩, rfl⟩
  · exact .inl rfl
theorem draw_wp {ops : Array Oper} {id : Nat} {Q : Exit → Act → World → Prop} (hS : CSound P C) (hm : P.follows .mixedOrders = true) {xs0 xs : List XI} (hc : compOpers P nt ops ops.toList = some xs0)
    (hg : xs.length = xs0.length ∧ ∀ (i : Nat) (x : XI), xs0[i]? = some x → ∃ y, xs[i]? = some y ∧ y.d = x.d ∧ y.g = x.g ∧ (y.o = x.o ∨ (∃ e sz z, x.o = .bslice e sz 0 z []) ∧ y.o = .mkz))
    (hd : drawFine P ops (lessFused (fusedOf P ops) xs) (masks ops.toList) = true) (hff : fusedFine (fusedOf P ops) = true)
    (hx : xops C ((marked P (masks ops.toList) (lessFused (fusedOf P ops) xs)).filter (fun x => !isNop x) ++ fusedOps (fusedOf P ops)) f h = some (f', h'))
    (hf : FR γ f a.tmps) (hn : nt ≤ a.tmps.size) (R : Rel P B γ h w) (hK : Post P B γ h w nt a f' h' (Q .normal)) : (Code.region id ops true).wp P Q a w := by
  obtain ⟨fN, hN, hx1, hx2⟩ := xops_append _ _ f h _ hx
  rw [xops_filter] at hx1
  obtain ⟨F, H, hF0, hH0, hFH, hst⟩ := xops_states _ f h _ hx1
  have hxl : xs.length = ops.size := by have := (compOpers_get ops.toList xs0 hc).1; rw [hg.1]; simpa using this
  have hyl : (lessFused (fusedOf P ops) xs).length = ops.size := by simp [lessFused, hxl]
  have hzl : (marked P (masks ops.toList) (lessFused (fusedOf P ops) xs)).length = ops.size := by simp [marked, hyl]
  rw [hzl] at hFH
  simp only [Prod.mk.injEq] at hFH
  obtain ⟨rfl, rfl⟩ := hFH
  have hfus : ∀ z ∈ fusedOf P ops, fusedAt P ops ops.toList z.i z.j = some z := fun z hz => fusedOf_mem hz
  have hzlt : ∀ z ∈ fusedOf P ops, z.i < ops.size ∧ z.j < ops.size ∧ z.i < z.j := by
    intro z hz
    obtain ⟨_, _, oi, oj, t, zc, q1, q2, _, _, _, _, _, _, q9, _⟩ := fusedAt_some (hfus z hz)
    exact ⟨(Array.getElem?_eq_some_iff.1 q1).1, (Array.getElem?_eq_some_iff.1 q2).1, q9⟩
  let ys := lessFused (fusedOf P ops) xs
  let Z : Nat → XI := fun i => (marked P (masks ops.toList) ys).getD i nop
  -- what stands at a place
  have hys : ∀ i, i < ops.size → ys[i]? = some (if (fusedOf P ops).any (fun f => f.i == i || f.j == i) then nop else xs.getD i nop) := fun i hi => less_get _ _ i (by rw [hxl]; exact hi)
  have hZ : ∀ i, i < ops.size → ∃ y q, ys[i]? = some y ∧ Z i = { y with q := q } ∧ q = owes P (masks ops.toList) ys i y.o := by
    intro i hi
    have h1 := marked_get (P := P) (masks ops.toList) ys i _ (hys i hi)
    exact ⟨_, _, hys i hi, by simp only [Z, List.getD_eq_getElem?_getD, h1, Option.getD_some], rfl⟩
  have hZo : ∀ i y, ys[i]? = some y → i < ops.size → (Z i).o = y.o := by
    intro i y hy hi
    obtain ⟨y', q, h1, h2, _⟩ := hZ i hi
    rw [hy] at h1; cases h1
    rw [h2]
  simp only [drawFine, Bool.and_eq_true] at hd
  obtain ⟨⟨hE, hD⟩, hpairs⟩ := hd
  have hpf : ∀ i j, i < ops.size → j < ops.size → pairFine P ops ys (masks ops.toList) i j = true := fun i j hi hj => List.all_eq_true.1 (List.all_eq_true.1 hpairs i (by simpa using hi)) j (by simpa using hj)
  have hnd : ((fusedOf P ops).flatMap fun f => [f.i, f.j]).Nodup := by simpa [fusedFine] using hff
  have hapart : ∀ z ∈ fusedOf P ops, ∀ z' ∈ fusedOf P ops, (z.i = z'.i ∨ z.j = z'.j ∨ z.i = z'.j) → z = z' := by
    have gen : ∀ (l : List Fused), (l.flatMap fun f => [f.i, f.j]).Nodup → ∀ z ∈ l, ∀ z' ∈ l, ∀ k, (z.i = k ∨ z.j = k) → (z'.i = k ∨ z'.j = k) → z = z' := by
      intro l
      induction l with
      | nil => intro _ z hz; simp at hz
      | cons y l ih =>
        intro hn z hz z' hz' k hk hk'
        simp only [List.flatMap_cons, List.nodup_append] at hn
        obtain ⟨_, hn2, hn3⟩ := hn
        have hmem : ∀ u ∈ l, (u.i = k ∨ u.j = k) → k ∈ l.flatMap fun f => [f.i, f.j] := fun u hu hku => List.mem_flatMap.2 ⟨u, hu, by rcases hku with e | e <;> simp [e]⟩
        rcases List.mem_cons.1 hz with e1 | hz1 <;> rcases List.mem_cons.1 hz' with e2 | hz2
        · rw [e1, e2]
        · subst e1
          exact absurd rfl (hn3 k (by rcases hk with e | e <;> simp [e]) k (hmem z' hz2 hk'))
        · subst e2
          exact absurd rfl (hn3 k (by rcases hk' with e | e <;> simp [e]) k (hmem z hz1 hk))
        · exact ih hn2 z hz1 z' hz2 k hk hk'
    intro z hz z' hz' he
    rcases he with e | e | e
    · exact gen _ hnd z hz z' hz' z.i (.inl rfl) (.inl e.symm)
    · exact gen _ hnd z hz z' hz' z.j (.inr rfl) (.inr e.symm)
    · exact gen _ hnd z hz z' hz' z.i (.inl rfl) (.inr e.symm)
  have hnoself : ∀ z ∈ fusedOf P ops, ∀ z' ∈ fusedOf P ops, z'.x ≠ .tmp z.d := by
    intro z hz z' hz' e
    obtain ⟨_, _, oi, oj, tt, zc, p1, p2, p3, p4, p5, p6, p7, p8, p9, p10, p11, p12, _⟩ := fusedAt_some (hfus z' hz')
    obtain ⟨_, _, oi', oj', tt', zc', p1', p2', p3', p4', p5', p6', p7', p8', p9', p10', p11', p12', _⟩ := fusedAt_some (hfus z hz)
    rcases (p12' z'.j oj (by simpa using (hzlt z' hz').2.1) p2).1 with e' | e'
    · have := hapart z' hz' z hz (.inr (.inl e'))
      subst this
      exact p11 e
    · exact e' (by simp [looks, p6, Op.operands, opdTmp, e])
  have T : RegS P C nt ops F H Z (fusedOf P ops) := by
    refine ⟨?_, ?_, ?_, ?_, ?_, ?_, hE, hfus, hapart, ?_⟩
    · intro i o ho hnf
      have hi : i < ops.size := (Array.getElem?_eq_some_iff.1 ho).1
      obtain ⟨x, h1, h2⟩ := (compOpers_get ops.toList xs0 hc).2 i o (by rw [Array.getElem?_toList]; exact ho)
      obtain ⟨x', h1', gd, gg, go⟩ := hg.2 i x h1
      have hany : (fusedOf P ops).any (fun f => f.i == i || f.j == i) = false := by
        rw [List.any_eq_false]
        intro z hz
        have := hnf z hz
        simp [this.1, this.2]
      obtain ⟨y, q, h3, h4, _⟩ := hZ i hi
      rw [hys i hi, hany] at h3
      simp only [Bool.false_eq_true, if_false, Option.some.injEq, List.getD_eq_getElem?_getD, h1', Option.getD_some] at h3
      subst h3
      exact ⟨x, h2, by rw [h4]; exact go, by rw [h4]; exact gd, by rw [h4]; exact gg⟩
    · rintro i ⟨z, hz, he⟩
      have hi : i < ops.size := by rcases he with rfl | rfl; exact (hzlt z hz).1; exact (hzlt z hz).2.1
      have hany : (fusedOf P ops).any (fun f => f.i == i || f.j == i) = true := by
        rw [List.any_eq_true]
        exact ⟨z, hz, by rcases he with e | e <;> simp [e]⟩
      obtain ⟨y, q, h3, h4, h5⟩ := hZ i hi
      rw [hys i hi, hany] at h3
      simp only [if_true, Option.some.injEq] at h3
      subst h3
      rw [h4, h5]
      have : owes P (masks ops.toList) ys i nop.o = .f := by
        simp [owes, nop, cls, moves]
      rw [this]
      rfl
    · intro i hi
      have : (marked P (masks ops.toList) ys)[i]? = some (Z i) := by
        simp only [Z, List.getD_eq_getElem?_getD, List.getElem?_eq_getElem (show i < (marked P (masks ops.toList) ys).length by rw [hzl]; exact hi), Option.getD_some]
      exact hst i _ this
    · intro i j oi oj hoi hoj hne hno
      have hi : i < ops.size := (Array.getElem?_eq_some_iff.1 hoi).1
      have hj : j < ops.size := (Array.getElem?_eq_some_iff.1 hoj).1
      have := hpf i j hi hj
      obtain ⟨yi, _, g3, _, _⟩ := hZ i hi
      obtain ⟨yj, _, g3', _, _⟩ := hZ j hj
      unfold pairFine at this
      rw [hoi, hoj, g3, g3'] at this
      simp only [Bool.or_eq_true, beq_iff_eq, Bool.and_eq_true] at this
      rcases this with (h1 | h1) | ⟨h1, h2⟩
      · exact absurd h1 hne
      · exact absurd h1 hno
      · rw [hZo i _ g3 hi, hZo j _ g3' hj]
        refine ⟨?_, fun d hdd => ?_⟩
        · unfold meetFine at h1
          split at h1
          · rename_i h3
            simp only [Bool.and_eq_true, beq_iff_eq] at h3
            exact .inr (.inl h3.1)
          · split at h1
            · rename_i h3
              simp only [Bool.and_eq_true, beq_iff_eq] at h3
              exact .inr (.inr h3.2)
            · exact .inl h1
        · rw [hdd] at h2
          simp only [Bool.and_eq_true, Bool.not_eq_true'] at h2
          simpa using h2.1
    · intro i j hi hj hci hcj hno hwj
      have hne : i ≠ j := by rintro rfl; omega
      have hno' : ordered (masks ops.toList) i j = false := by
        cases ho : ordered (masks ops.toList) i j with
        | false => rfl
        | true => exact absurd ho hno
      have hno2 : ordered (masks ops.toList) j i = false := by rw [← ordered_symm hne]; exact hno'
      obtain ⟨yi, qi, h3, h4, h5⟩ := hZ i hi
      obtain ⟨yj, qj, h3', h4', h5'⟩ := hZ j hj
      have hst' : ∀ k, k < ops.size → xstep C (Z k) (F k) (H k) = some (F (k + 1), H (k + 1)) := fun k hk => by
        have : (marked P (masks ops.toList) ys)[k]? = some (Z k) := by
          simp only [Z, List.getD_eq_getElem?_getD, List.getElem?_eq_getElem (show k < (marked P (masks ops.toList) ys).length by rw [hzl]; exact hk), Option.getD_some]
        exact hst k _ this
      have oi : (Z i).o = yi.o := by rw [h4]
      have oj : (Z j).o = yj.o := by rw [h4']
      rw [oi] at hci
      rw [oj] at hcj
      have opi : openTo (masks ops.toList) ys i (fun y => cls y == 1) = true := openTo_of h3' (by simpa using hcj) hno'
      -- the step of i
      rcases xstep_some (hst' i hi) with ⟨_, v, hr, hq, _⟩ | ⟨_, _, e⟩
      case inr => left; rw [e]; exact List.prefix_refl _
      -- what stands in the two operations' looks
      have hpij := hpf i j hi hj
      unfold pairFine at hpij
      have hoi : ops[i]? = some ops[i] := Array.getElem?_eq_getElem hi
      have hoj : ops[j]? = some ops[j] := Array.getElem?_eq_getElem hj
      rw [hoi, hoj, h3, h3'] at hpij
      simp only [Bool.or_eq_true, beq_iff_eq, Bool.and_eq_true] at hpij
      have hmeet : meetFine P ops i j yi.o yj.o = true := by
        rcases hpij with (h1 | h1) | ⟨h1, _⟩
        · exact absurd h1 hne
        · exact absurd h1 hno
        · exact h1
      have hnci : (cls yi.o == 1) = false := by simp; omega
      cases hmv : moves P yi.o with
      | false =>
        -- a call that leaves all blocks, or none that can be here
        have hc3 : cls yi.o = 3 := by
          unfold meetFine at hmeet
          rw [hnci, hmv] at hmeet
          simp only [Bool.false_and, Bool.false_eq_true, if_false] at hmeet
          unfold pairOk at hmeet
          rw [hcj] at hmeet
          simp only [Bool.or_eq_true, beq_iff_eq, Bool.and_eq_true, decide_eq_true_eq] at hmeet
          omega
        have hqi : qi = .t := by
          rw [h5]
          unfold owes
          rw [hnci, opi, hmv, hc3]
          simp
        left
        rw [h4] at hq
        simp only [hqi] at hq
        exact hq
      | true =>
        obtain ⟨ai, hai⟩ := moves_adr hmv
        have hap : apartFine ops j i yj.o yi.o = true := by
          unfold meetFine at hmeet
          rw [hnci, hmv, hcj] at hmeet
          simpa using hmeet
        unfold apartFine at hap
        split at hap
        case h_2 => cases hap
        rename_i t u ht hu
        simp only [Bool.and_eq_true] at hap
        have hajt : ∀ y, adrOf yj.o = some y → y = .tmp t := fun y hy => by
          unfold adrTmp at ht
          rw [hy] at ht
          cases y <;> simp [opdTmp] at ht
          rw [ht]
        have haiu : ai = .tmp u := by
          unfold adrTmp at hu
          rw [hai] at hu
          cases ai <;> simp [opdTmp] at hu
          rw [hu]
        -- slots that are not written any more
        have keep : ∀ (s k d : Nat), steady ops s d = true → s ≤ k → k ≤ ops.size → F k d = F s d := by
          intro s k d hs hsk hk
          have step1 : ∀ c, s + c ≤ ops.size → F (s + c) d = F s d := by
            intro c
            induction c with
            | zero => intro _; rfl
            | succ c ih =>
              intro hc'
              rw [← ih (by omega), ← Nat.add_assoc]
              have hk1 : s + c < ops.size := by omega
              have hsd := List.all_eq_true.1 hs (s + c) (by simpa using hk1)
              rw [Array.getElem?_eq_getElem hk1] at hsd
              simp only [Bool.or_eq_true, decide_eq_true_eq, bne_iff_ne, ne_eq] at hsd
              have hdd : ops[s + c].dst ≠ some d := by
                rcases hsd with h | h
                · omega
                · exact h
              have hzd : (Z (s + c)).d ≠ some d := by
                obtain ⟨y, q, g1, g2, _⟩ := hZ (s + c) hk1
                rw [g2]
                simp only
                rw [hys (s + c) hk1] at g1
                split at g1
                · cases g1; simp [nop]
                · cases g1
                  obtain ⟨x, q1, q2⟩ := (compOpers_get ops.toList xs0 hc).2 (s + c) ops[s + c] (by rw [Array.getElem?_toList]; exact Array.getElem?_eq_getElem hk1)
                  obtain ⟨x', r1, r2, _, _⟩ := hg.2 (s + c) x q1
                  simp only [List.getD_eq_getElem?_getD, r1, Option.getD_some]
                  rw [r2, (compOper_some q2).2.2.1]
                  exact hdd
              rcases xstep_some (hst' (s + c) hk1) with ⟨_, v, _, _, e⟩ | ⟨_, e, _⟩ <;> rw [e] <;>
              · cases hz : (Z (s + c)).d with
                | none => rfl
                | some d' =>
                  have : d ≠ d' := fun e => hzd (by rw [hz, e])
                  simp [updo, upd, this]
          have := step1 (k - s) (by omega)
          rwa [show s + (k - s) = k by omega] at this
        -- only its own block changes
        have hkp : ∃ m, blkV (ev (F i) ai) = some m ∧ Kp m (H i) (H (i + 1)) := by
          cases hyo : yi.o with
          | store n a x =>
            rw [hyo] at hai
            cases hai
            rw [oi, hyo, xrun_other (by simp [cls])] at hr
            exact store_kp hr
          | call fo as =>
            have hqi : ∃ l, qi = .s true l := by
              rw [h5]
              unfold owes
              rw [hnci, opi, hmv, hyo]
              simp [cls]
            obtain ⟨l, hqi⟩ := hqi
            rw [h4] at hq
            simp only [hqi, qok] at hq
            obtain ⟨a, m, r1, r2, r3, r4⟩ := hq
            rw [hai] at r1
            cases r1
            exact ⟨m, r2, r4 (by simp)⟩
          | _ => rw [hyo] at hmv; simp [moves] at hmv
        obtain ⟨m, hm, hkp⟩ := hkp
        refine .inr ⟨m, hkp, fun y p hy hev => ?_⟩
        rw [oj] at hy
        have hya := rd_adr hy
        obtain rfl := hajt y hya
        rcases Nat.lt_or_gt_of_ne hne with hlt | hgt
        · -- the reading stands behind
          have hmem := others_mem (p := moves P) hlt h3 hmv hno2 hai
          have hqj : qj = .s false (others (masks ops.toList) ys j (moves P)) := by
            rw [h5']
            unfold owes
            rw [show (cls yj.o == 1) = true by simpa using hcj]
            simp only [if_true]
            rw [if_neg]
            simp only [List.isEmpty_iff]
            intro e
            rw [e] at hmem
            cases hmem
          rcases xstep_some (hst' j hj) with ⟨_, v', hr', hq', _⟩ | ⟨hw', _, _⟩
          · rw [h4'] at hq'
            simp only [hqj, qok] at hq'
            obtain ⟨a, m', r1, r2, r3, _⟩ := hq'
            rw [hya] at r1
            cases r1
            obtain ⟨n, s1, s2⟩ := r3 _ hmem
            rw [hev] at r2
            cases r2
            rw [haiu] at s1 hm
            simp only [ev] at s1 hm
            rw [keep i j u hap.2 (by omega) (by omega), hm] at s1
            cases s1
            exact fun e => s2 e.symm
          · rw [hwj] at hw'; cases hw'
        · -- the reading stands ahead
          have hmem := others_mem (p := fun y => cls y == 1) (i := i) hgt h3' (by simpa using hcj) hno' hya
          have hqi : ∃ b, qi = .s b (others (masks ops.toList) ys i (fun y => cls y == 1)) := by
            rw [h5]
            unfold owes
            rw [hnci, opi, hmv]
            simp only [Bool.false_eq_true, if_false, if_true]
            rw [if_pos]
            · exact ⟨_, rfl⟩
            · simp only [Bool.or_eq_true, Bool.not_eq_true']
              right
              cases e : (others (masks ops.toList) ys i (fun y => cls y == 1)) with
              | nil => rw [e] at hmem; cases hmem
              | cons a l => rfl
          obtain ⟨b, hqi⟩ := hqi
          rw [h4] at hq
          simp only [hqi, qok] at hq
          obtain ⟨a, m', r1, r2, r3, _⟩ := hq
          rw [hai] at r1
          cases r1
          rw [hm] at r2
          cases r2
          obtain ⟨n, s1, s2⟩ := r3 _ hmem
          simp only [ev] at s1 hev
          rw [keep j i t hap.1 (by omega) (by omega), hev] at s1
          cases s1
          exact s2
    · intro i j oi oj d hoi hoj hdi hdj
      have hD' : (ops.toList.filterMap (·.dst)).Nodup := by simpa [dstsFine] using hD
      exact nodup_dst ops.toList hD' i j oi oj d (by rw [Array.getElem?_toList]; exact hoi) (by rw [Array.getElem?_toList]; exact hoj) hdi hdj
    · exact fusedOps_fine _ (F ops.size) (F ops.size) (H ops.size) _ hx2 hnoself (fun z _ => rfl)
  have hZd : ∀ z ∈ fusedOf P ops, z.d < nt := by
    intro z hz
    obtain ⟨_, _, oi, oj, t, zc, q1, q2, q3, q4, _⟩ := fusedAt_some (hfus z hz)
    obtain ⟨x, _, h2⟩ := (compOpers_get ops.toList xs0 hc).2 z.i oi (by rw [Array.getElem?_toList]; exact q1)
    exact (compOper_some h2).2.2.2.2 z.d q4
  have I0 : Inv P B nt ops F H Z (fusedOf P ops) γ h w a (Ls (Array.replicate ops.size false)) a { w with drawn := w.drawn + 1 } γ 0 (fun _ => 0) := by
    have hL : ∀ k, Ls (Array.replicate ops.size false) k = false := by
      intro k
      simp only [Ls, Array.getD_eq_getD_getElem?, Array.getElem?_replicate]
      split <;> rfl
    refine ⟨hn, rfl, ?_, Nat.zero_le _, ?_, ?_, ?_, ?_, ?_, ?_⟩
    · intro i o _ hl; rw [hL] at hl; cases hl
    · intro i _ _; rw [hL]; simp
    · rw [hH0]; exact Sim.drawn R
    · intro d _ i o _ _ hl; rw [hL] at hl; cases hl
    · intro d _ _; rw [hF0]; exact hf d
    · intro z _ hl; rw [hL] at hl; cases hl
    · intro z _ z' _ hl; rw [hL] at hl; cases hl
  refine wp_region_any hm (inv_any hS T hZd ?_ ops.size _ a _ γ 0 _ (by simp) (by refine Nat.le_trans (List.length_filter_le _ _) ?_; simp) I0)
  intro a1 w1 γ1 p pb L hall I
  have hHp : H p = H ops.size := by
    have := T.H_const (ops.size - p) p (by have := I.plt; omega) (fun k h1 h2 => by
      rcases Nat.lt_or_ge (cls (Z k).o) 2 with h3 | h3
      · exact h3
      · exfalso
        have := (I.chain k (by have := I.plt; omega) h3).1 (hall k (by have := I.plt; omega))
        omega)
    rw [show p + (ops.size - p) = ops.size by have := I.plt; omega] at this
    exact this.symm
  have S := I.sim
  rw [hHp] at S
  obtain ⟨γ2, S2, hf2⟩ := fused_run (t := a1.tmps) (pb := pb) T hZd (fusedOf P ops) (F ops.size) (H ops.size) γ1 (fun z hz => hz) (by
      have : ∀ (l : List Fused), (l.flatMap fun f => [f.i, f.j]).Nodup → (l.map (·.i)).Nodup := by
        intro l
        induction l with
        | nil => intro _; simp
        | cons y l ih =>
          intro hn
          simp only [List.flatMap_cons, List.nodup_append] at hn
          obtain ⟨_, hn2, hn3⟩ := hn
          refine List.nodup_cons.2 ⟨fun hm => ?_, ih hn2⟩
          obtain ⟨z, hz, e⟩ := List.mem_map.1 hm
          exact hn3 y.i (by simp) y.i (List.mem_flatMap.2 ⟨z, hz, by simp [e]⟩) rfl
      exact this _ hnd) hx2 (fun z _ => rfl) (fun d hd => by
        by_cases hw : ∃ (k : Nat) (o : Oper), ops[k]? = some o ∧ o.dst = some d
        · obtain ⟨k, o, hk, hkd⟩ := hw
          exact I.done d hd k o hk hkd (hall k (Array.getElem?_eq_some_iff.1 hk).1)
        · have := I.todo d hd (fun i o hi hid => absurd ⟨i, o, hi, hid⟩ hw)
          have e : F ops.size d = F 0 d := by
            have := T.F_const (d := d) ops.size 0 (by omega) (fun m _ h2 hz => by
              have hom : ops[m]? = some ops[m] := Array.getElem?_eq_getElem (by omega)
              exact hw ⟨m, _, hom, (T.dstZ hom hz).1⟩)
            rwa [Nat.zero_add] at this
          rw [e]; exact this) (fun z hz => by
        obtain ⟨q1, q2, q3, q4, q5, cur, q6, q7, q8⟩ := I.pend z hz (hall z.i (hzlt z hz).1)
        rw [hHp] at q5
        exact ⟨q1, q2, q3, q5, cur, q6, q8 (hall z.j (hzlt z hz).2.1)⟩) (fun z hz z' hz' hne => I.sep z hz z' hz' (hall z.i (hzlt z hz).1) (hall z'.i (hzlt z' hz').1) hne) S
  exact hK γ2 a1 w1 hf2 I.size I.defers S2
theorem reg_wp {ops : Array Oper} {id : Nat} {draw : Bool} {xs : List XI} {Q : Exit → Act → World → Prop} (hS : CSound P C) (hm : P.follows .mixedOrders = true) (hc : compReg P nt ops draw = some xs) (hx : xops C xs f h = some (f', h'))
    (hf : FR γ f a.tmps) (hn : nt ≤ a.tmps.size) (R : Rel P B γ h w) (hK : Post P B γ h w nt a f' h' (Q .normal)) : (Code.region id ops draw).wp P Q a w := by
  unfold compReg at hc
  split at hc
  · cases hc
  · rename_i xs' hxs
    cases draw with
    | true =>
      simp only [if_true] at hc
      by_cases h1 : (drawFine P ops (lessFused (fusedOf P ops) xs') (masks ops.toList) && fusedFine (fusedOf P ops)) = true
      · rw [if_pos h1] at hc
        obtain rfl := Option.some.inj hc
        simp only [Bool.and_eq_true] at h1
        exact draw_wp hS hm hxs ⟨rfl, fun i x hx => ⟨x, hx, rfl, rfl, .inl rfl⟩⟩ h1.1 h1.2 hx hf hn R hK
      · rw [if_neg h1] at hc
        obtain ⟨h2, rfl⟩ := ite_some hc
        simp only [Bool.and_eq_true] at h2
        exact draw_wp hS hm hxs ⟨by simp, fun i x hx => ⟨zap x, by rw [List.getElem?_map, hx]; rfl, zap_d x, zap_g x, zap_o x⟩⟩ h2.1 h2.2 hx hf hn R hK
    | false =>
      simp only [Bool.false_eq_true, if_false, Option.some.injEq] at hc
      subst hc
      exact wp_region_list (ops_wp hS ops.toList xs' f h γ a w hxs hx hf hn R hK)
def cv : XE → Exit
  | .normal => .normal
  | .exit id => .exit id
  | .ret => .ret
theorem code_wp (hS : CSound P C) (hm : P.follows .mixedOrders = true) (n : Nat) : ∀ (c : Code) (ir : IR), compCode P nt c = some ir → ∀ (f : Fr) (h : AH) (e : XE) (f' : Fr) (h' : AH) (γ : List G) (a : Act) (w : World) (Q : Exit → Act → World → Prop),
    xcode C n ir f h = some (e, f', h') → FR γ f a.tmps → nt ≤ a.tmps.size → Rel P B γ h w → Post P B γ h w nt a f' h' (Q (cv e)) → c.wp P Q a w := by
  intro c
  induction c with
  | skip =>
    intro ir hc f h e f' h' γ a w Q hx hf hn R hK
    cases hc
    simp only [xcode, Option.some.injEq, Prod.mk.injEq] at hx
    obtain ⟨rfl, rfl, rfl⟩ := hx
    exact wp_skip (hK γ a w hf hn rfl (Sim.refl R))
  | region id ops draw =>
    intro ir hc f h e f' h' γ a w Q hx hf hn R hK
    obtain ⟨xs, h1, rfl⟩ := map_some hc
    simp only [xcode] at hx
    split at hx
    · rename_i f1 h1' hxs
      simp only [Option.some.injEq, Prod.mk.injEq] at hx
      obtain ⟨rfl, rfl, rfl⟩ := hx
      exact reg_wp hS hm h1 hxs hf hn R hK
    · cases hx
  | seq x y ihx ihy =>
    intro ir hc f h e f' h' γ a w Q hx hf hn R hK
    simp only [compCode] at hc
    split at hc
    · rename_i xi yi h1 h2
      cases hc
      simp only [xcode] at hx
      refine wp_seq ?_
      split at hx
      · rename_i f1 hh1 hx1
        refine ihx xi h1 f h .normal f1 hh1 γ a w _ hx1 hf hn R fun γ1 a1 w1 q1 q2 q3 q4 => ?_
        exact ihy yi h2 f1 hh1 e f' h' γ1 a1 w1 Q hx q1 q2 q4.rel (hK.step q4 q3)
      · rename_i hne
        refine ihx xi h1 f h e f' h' γ a w _ hx hf hn R fun γ1 a1 w1 q1 q2 q3 q4 => ?_
        have := hK γ1 a1 w1 q1 q2 q3 q4
        cases e with
        | normal => exact absurd hx (hne f' h')
        | exit id => exact this
        | ret => exact this
    · cases hc
  | cond c x y ihx ihy =>
    intro ir hc f h e f' h' γ a w Q hx hf hn R hK
    simp only [compCode] at hc
    split at hc
    · rename_i xi yi h1 h2
      obtain ⟨hok, rfl⟩ := ite_some hc
      have hv := hf.ev hok
      simp only [xcode] at hx
      split at hx
      · rename_i he
        rw [he] at hv
        exact wp_cond_true hv.bool_inv (ihx xi h1 f h e f' h' γ a w Q hx hf hn R hK)
      · rename_i he
        rw [he] at hv
        exact wp_cond_false hv.bool_inv (ihy yi h2 f h e f' h' γ a w Q hx hf hn R hK)
      · cases hx
    · cases hc
  | block id x ihx =>
    intro ir hc f h e f' h' γ a w Q hx hf hn R hK
    obtain ⟨xi, h1, rfl⟩ := map_some hc
    simp only [xcode] at hx
    refine wp_block ?_
    split at hx
    · rename_i id' f1 hh1 hx1
      split at hx
      · rename_i hid
        simp only [Option.some.injEq, Prod.mk.injEq] at hx
        obtain ⟨rfl, rfl, rfl⟩ := hx
        refine ihx xi h1 f h (.exit id') _ _ γ a w _ hx1 hf hn R fun γ1 a1 w1 q1 q2 q3 q4 => ?_
        show Exit.inBlock id Q (.exit id') a1 w1
        simp only [Exit.inBlock, hid, if_true]
        exact hK γ1 a1 w1 q1 q2 q3 q4
      · rename_i hid
        simp only [Option.some.injEq, Prod.mk.injEq] at hx
        obtain ⟨rfl, rfl, rfl⟩ := hx
        refine ihx xi h1 f h (.exit id') _ _ γ a w _ hx1 hf hn R fun γ1 a1 w1 q1 q2 q3 q4 => ?_
        show Exit.inBlock id Q (.exit id') a1 w1
        simp only [Exit.inBlock, hid, if_false]
        exact hK γ1 a1 w1 q1 q2 q3 q4
    · rename_i hne
      refine ihx xi h1 f h e f' h' γ a w _ hx hf hn R fun γ1 a1 w1 q1 q2 q3 q4 => ?_
      have := hK γ1 a1 w1 q1 q2 q3 q4
      cases e with
      | normal => exact this
      | exit id' => exact absurd hx (hne id' f' h')
      | ret => exact this
  | loop x ihx =>
    intro ir hc f h e f' h' γ a w Q hx hf hn R hK
    obtain ⟨xi, h1, rfl⟩ := map_some hc
    simp only [xcode] at hx
    have key : ∀ (m : Nat) (f : Fr) (h : AH) (γ : List G) (a : Act) (w : World), xloop (fun f h => xcode C n xi f h) m f h = some (e, f', h') → FR γ f a.tmps → nt ≤ a.tmps.size → Rel P B γ h w →
        Post P B γ h w nt a f' h' (Q (cv e)) → Code.rounds P x Q m a w := by
      intro m
      induction m with
      | zero => intro f h γ a w hx; simp [xloop] at hx
      | succ m ih =>
        intro f h γ a w hx hf hn R hK
        rw [rounds_succ]
        simp only [xloop] at hx
        split at hx
        · rename_i f1 hh1 hx1
          refine ihx xi h1 f h .normal f1 hh1 γ a w _ hx1 hf hn R fun γ1 a1 w1 q1 q2 q3 q4 => ?_
          exact ih f1 hh1 γ1 a1 w1 hx q1 q2 q4.rel (hK.step q4 q3)
        · rename_i hne
          refine ihx xi h1 f h e f' h' γ a w _ hx hf hn R fun γ1 a1 w1 q1 q2 q3 q4 => ?_
          have := hK γ1 a1 w1 q1 q2 q3 q4
          cases e with
          | normal => exact absurd hx (hne f' h')
          | exit id => exact this
          | ret => exact this
    exact wp_loop_rounds n (key n f h γ a w hx hf hn R hK)
  | exit id =>
    intro ir hc f h e f' h' γ a w Q hx hf hn R hK
    cases hc
    simp only [xcode, Option.some.injEq, Prod.mk.injEq] at hx
    obtain ⟨rfl, rfl, rfl⟩ := hx
    exact wp_exit (hK γ a w hf hn rfl (Sim.refl R))
  | ret =>
    intro ir hc f h e f' h' γ a w Q hx hf hn R hK
    cases hc
    simp only [xcode, Option.some.injEq, Prod.mk.injEq] at hx
    obtain ⟨rfl, rfl, rfl⟩ := hx
    exact wp_ret (hK γ a w hf hn rfl (Sim.refl R))
  | _ => intro ir hc; simp [compCode] at hc
end Go.Proofs.Ytapafdpnmakekaa.X

set_option linter.unusedVariables false
set_option linter.unusedSimpArgs false
namespace Go.Proofs.Ytapafdpnmakekaa.X
open Go Go.RowKit
variable {P : Program} {B : Nat} {γ : List G} {h h' : AH} {w w0 : World} {f : Fr} {a : Act} {v v' : Value}
def rvSem (t : Array Value) : ResultVar → Sem Value
  | .tmp i => pure (t.getD i undef)
  | .cell i ty => do loadVar ty (← asAddr (t.getD i undef))
theorem res1_sound {r : ResultVar} {x : XRes} (hc : compRes P r = some x) (hx : xres1 f h x = some v) (hf : FR γ f a.tmps) (R : Rel P B γ h w) :
    ∃ v', (rvSem a.tmps r).run P w = .ok v' w ∧ VR γ v v' := by
  cases r with
  | tmp t =>
    cases hc
    simp only [xres1, Option.some.injEq] at hx
    subst hx
    exact ⟨_, rfl, hf t⟩
  | cell t ty =>
    simp only [compRes] at hc
    split at hc
    · rename_i n ha hs
      cases hc
      simp only [xres1] at hx
      split at hx
      · rename_i m off sp he
        have hv := hf t
        rw [he] at hv
        obtain ⟨_, g, hg, e1⟩ := hv.ptr_inv
        obtain ⟨c, hc', rfl⟩ := map_some hx
        obtain ⟨b, hb, h3⟩ := Option.bind_eq_some_iff.1 hc'
        obtain ⟨h4, rfl⟩ := ite_some h3
        obtain ⟨cs, g1, g2⟩ := R.cells hb hg
        have hlen : ((cs.drop off).take n).length = n := by have := g1.1; simp; omega
        have hl := load_cells (P := P) w g.b (g.o + off) ((cs.drop off).take n) (fun j u hu => by
          rw [List.getElem?_take] at hu
          split at hu
          · rw [List.getElem?_drop] at hu
            rw [Nat.add_assoc]
            exact g2 _ _ hu
          · cases hu)
        rw [hlen] at hl
        refine ⟨_, ?_, VR.aggL ((g1.drop off).take n)⟩
        simp only [rvSem, e1, asAddr, loadVar, Sem.run_bind, Sem.run_pure, Result.andThen_ok, run_isAgg ha, if_true, run_size hs, hl]
      · cases hx
    · rename_i n ha hs
      cases hc
      simp only [xres1] at hx
      split at hx
      · rename_i m off sp he
        have hv := hf t
        rw [he] at hv
        obtain ⟨_, g, hg, e1⟩ := hv.ptr_inv
        obtain ⟨b, hb, h3⟩ := Option.bind_eq_some_iff.1 hx
        obtain ⟨_, u', h5, h6⟩ := R.cell m b g hb hg off v h3
        refine ⟨u', ?_, h6⟩
        simp only [rvSem, e1, asAddr, loadVar, Sem.run_bind, Sem.run_pure, Result.andThen_ok, run_isAgg ha, Bool.false_eq_true, if_false, run_load, h5]
      · cases hx
    · cases hc
theorem resl_sound (hf : FR γ f a.tmps) (R : Rel P B γ h w) : ∀ (rs : List ResultVar) (xs : List XRes) (vs : List Value), compRess P rs = some xs → xresl f h xs = some vs →
    ∃ us : List Value, (rs.mapM (rvSem a.tmps)).run P w = .ok us w ∧ VRL γ vs us
  | [], xs, vs, hc, hx => by
    simp [compRess] at hc
    subst hc
    simp [xresl] at hx
    subst hx
    exact ⟨[], rfl, VRL.nil γ⟩
  | r :: rs, xs, vs, hc, hx => by
    simp only [compRess] at hc
    split at hc
    · rename_i x l h1 h2
      cases hc
      simp only [xresl] at hx
      split at hx
      · rename_i u us h3 h4
        cases hx
        obtain ⟨u', q1, q2⟩ := res1_sound h1 h3 hf R
        obtain ⟨us', q3, q4⟩ := resl_sound hf R rs l us h2 h4
        refine ⟨u' :: us', ?_, VRL.cons q2 q4⟩
        simp only [List.mapM_cons, Sem.run_bind, q1, Result.andThen_ok, q3, Sem.run_pure]
      · cases hx
    · cases hc
theorem res_sound {fn : Func} {xs : List XRes} (hc : compRess P fn.results.toList = some xs) (hx : xres f h xs = some v) (hf : FR γ f a.tmps) (R : Rel P B γ h w) :
    ∃ v', (results fn a.tmps).run P w = .ok v' w ∧ VR γ v v' := by
  unfold xres at hx
  have gen : ∀ vs, xresl f h xs = some vs → ∃ us : List Value, (results fn a.tmps).run P w = .ok (if hu : us.toArray.size = 1 then us.toArray[0] else .tuple us.toArray) w ∧ VRL γ vs us := by
    intro vs hvs
    obtain ⟨us, q1, q2⟩ := resl_sound hf R _ xs vs hc hvs
    refine ⟨us, ?_, q2⟩
    have e : results fn a.tmps = ((List.toArray <$> fn.results.toList.mapM (rvSem a.tmps)) >>= fun vs => pure (if h : vs.size = 1 then vs[0] else Value.tuple vs)) := by
      rw [← Array.mapM_eq_mapM_toList]
      unfold results
      congr 1
    rw [e, Sem.run_bind, Sem.run_map, q1, Result.andThen_ok, Result.andThen_ok]
    rfl
  split at hx
  · rename_i u hu
    cases hx
    obtain ⟨us, q1, q2⟩ := gen _ hu
    obtain ⟨u', hu'⟩ := List.length_eq_one_iff.1 (show us.length = 1 by rw [← q2.1]; rfl)
    subst hu'
    exact ⟨u', q1, q2.2 0 _ _ rfl rfl⟩
  · rename_i vs hne hvs
    cases hx
    obtain ⟨us, q1, q2⟩ := gen _ hvs
    have hne' : ¬ us.toArray.size = 1 := by
      intro e
      obtain ⟨u, hu⟩ := List.length_eq_one_iff.1 (show vs.length = 1 by rw [q2.1]; simpa using e)
      exact hne u hu
    rw [dif_neg hne'] at q1
    exact ⟨_, q1, VR.tupleL q2⟩
  · cases hx
theorem enter_FR {args args' : List Value} (hv : VRL γ args args') (n : Nat) : FR γ (fun j => args.getD j undef) (args'.toArray ++ Array.replicate n undef) := by
  intro i
  by_cases hi : i < args.length
  · have h1 : args[i]? = some args[i] := List.getElem?_eq_getElem hi
    obtain ⟨b, hb, hr⟩ := hv.get h1
    have hb' : i < args'.length := (List.getElem?_eq_some_iff.1 hb).1
    simp only [List.getD_eq_getElem?_getD, h1, Option.getD_some, Array.getD_eq_getD_getElem?]
    rw [Array.getElem?_append_left (by simpa using hb'), List.getElem?_toArray, hb]
    exact hr
  · have h1 : args[i]? = none := List.getElem?_eq_none (by omega)
    have hl : ¬ i < args'.length := by rw [← hv.1]; exact hi
    simp only [List.getD_eq_getElem?_getD, h1, Option.getD_none, Array.getD_eq_getD_getElem?]
    rw [Array.getElem?_append_right (by simpa using Nat.le_of_not_lt hl), Array.getElem?_replicate]
    split
    · exact VR.undef γ
    · exact VR.undef γ
def ESound (P : Program) (E : FuncId → Option (List Value → AH → Option (Value × AH))) : Prop := ∀ g p, E g = some p → CSound P fun g' args h => if g' = g then p args h else none
def TSound (P : Program) (T : FuncId → Option XFn) : Prop := ∀ g x, T g = some x → ∃ fn, P.funcs[g]? = some fn ∧ compFn P fn = some x
theorem xcall_sound {E : FuncId → Option (List Value → AH → Option (Value × AH))} {T : FuncId → Option XFn} (hm : P.follows .mixedOrders = true) (hE : ESound P E) (hT : TSound P T) : ∀ k, CSound P (xcall E T k)
  | 0 => fun g args h v h' hx => by simp [xcall] at hx
  | k + 1 => by
    intro g args h v h' hx
    simp only [xcall] at hx
    split at hx
    · rename_i p hp
      have := hE g p hp g args h v h' (by simp only [if_true]; exact hx)
      exact this
    · split at hx
      · cases hx
      · rename_i x hg
        obtain ⟨fn, h1, h2⟩ := hT g x hg
        unfold compFn at h2
        split at h2
        · cases h2
        · rename_i c hb
          split at h2
          · cases h2
          · rename_i hname
            split at h2
            · rename_i b r hbc hrc
              cases h2
              refine ⟨⟨fn, h1, by rw [hb]; rfl, by simpa using hname⟩, fun B γ w args' R hv => ?_⟩
              split at hx
              · cases hx
              · rename_i e f1 h1' hnx hcode
                split at hx
                · rename_i u hu
                  simp only [Option.some.injEq, Prod.mk.injEq] at hx
                  obtain ⟨rfl, rfl⟩ := hx
                  refine calls_of_wp h1 hb ?_
                  refine code_wp (nt := fn.ntmps) (xcall_sound hm hE hT k) hm (k + 1) c b hbc _ h e f1 h1' γ _ w _ hcode (enter_FR hv _) (by simp; omega) R fun γ1 a1 w1 q1 q2 q3 q4 => ?_
                  obtain ⟨u', r1, r2⟩ := res_sound hrc hu q1 q4.rel
                  cases e with
                  | normal => exact ⟨q3, u', r1, γ1, u', rfl, r2, q4⟩
                  | exit id => exact (hnx id rfl).elim
                  | ret => exact ⟨q3, u', r1, γ1, u', rfl, r2, q4⟩
                · cases hx
              · cases hx
            · cases h2
end Go.Proofs.Ytapafdpnmakekaa.X

set_option linter.unusedVariables false
set_option linter.unusedSimpArgs false
namespace Go.Proofs.Ytapafdpnmakekaa.X
open Go Go.RowKit
abbrev CallT := FuncId → List Value → AH → Option (Value × AH)
def CLe (C C' : CallT) : Prop := ∀ g a h r, C g a h = some r → C' g a h = some r
theorem xrun_mono {C C' : CallT} (hC : CLe C C') {o : XOp} {f : Fr} {h : AH} {r : Value × AH} (hx : xrun C o f h = some r) : xrun C' o f h = some r := by
  cases o
  case call fo args =>
    simp only [xrun] at hx ⊢
    split at hx
    · split at hx
      · rename_i hi
        rw [if_pos hi]
        exact hC _ _ _ _ hx
      · cases hx
    · cases hx
  all_goals exact hx
theorem xstep_mono {C C' : CallT} (hC : CLe C C') {i : XI} {f : Fr} {h : AH} {r : Fr × AH} (hx : xstep C i f h = some r) : xstep C' i f h = some r := by
  unfold xstep at hx ⊢
  split at hx
  · rename_i hw
    rw [if_pos hw]
    split at hx
    · rename_i v h' he
      rw [xrun_mono hC he]
      exact hx
    · cases hx
  · rename_i hw
    rw [if_neg hw]
    exact hx
theorem xops_mono {C C' : CallT} (hC : CLe C C') : ∀ {ops : List XI} {f : Fr} {h : AH} {r : Fr × AH}, xops C ops f h = some r → xops C' ops f h = some r
  | [], f, h, r, hx => hx
  | i :: rest, f, h, r, hx => by
    simp only [xops] at hx ⊢
    split at hx
    · rename_i f' h' he
      rw [xstep_mono hC he]
      exact xops_mono hC hx
    · cases hx
theorem xloop_mono {B B' : Fr → AH → Option (XE × Fr × AH)} (hB : ∀ f h r, B f h = some r → B' f h = some r) : ∀ {n m : Nat} {f : Fr} {h : AH} {r : XE × Fr × AH}, n ≤ m → xloop B n f h = some r → xloop B' m f h = some r
  | 0, m, f, h, r, hn, hx => by simp [xloop] at hx
  | n + 1, 0, f, h, r, hn, hx => by omega
  | n + 1, m + 1, f, h, r, hn, hx => by
    simp only [xloop] at hx ⊢
    split at hx
    · rename_i f' h' he
      rw [hB _ _ _ he]
      exact xloop_mono hB (by omega) hx
    · rename_i hne
      rw [hB _ _ _ hx]
      obtain ⟨e, f', h'⟩ := r
      cases e
      · exact (hne f' h' hx).elim
      · rfl
      · rfl
theorem xcode_mono {C C' : CallT} (hC : CLe C C') {n m : Nat} (hn : n ≤ m) : ∀ {c : IR} {f : Fr} {h : AH} {r : XE × Fr × AH}, xcode C n c f h = some r → xcode C' m c f h = some r
  | .skip, f, h, r, hx => hx
  | .reg ops, f, h, r, hx => by
    simp only [xcode] at hx ⊢
    split at hx
    · rename_i f' h' he
      rw [xops_mono hC he]
      exact hx
    · cases hx
  | .seq a b, f, h, r, hx => by
    simp only [xcode] at hx ⊢
    split at hx
    · rename_i f' h' he
      rw [xcode_mono hC hn he]
      exact xcode_mono hC hn hx
    · rename_i hne
      rw [xcode_mono hC hn hx]
      obtain ⟨e, f', h'⟩ := r
      cases e
      · exact (hne f' h' hx).elim
      · rfl
      · rfl
  | .cond c a b, f, h, r, hx => by
    simp only [xcode] at hx ⊢
    split at hx
    · exact xcode_mono hC hn hx
    · exact xcode_mono hC hn hx
    · cases hx
  | .blk id a, f, h, r, hx => by
    simp only [xcode] at hx ⊢
    split at hx
    · rename_i id' f' h' he
      rw [xcode_mono hC hn he]
      exact hx
    · rename_i hne
      rw [xcode_mono hC hn hx]
      obtain ⟨e, f', h'⟩ := r
      cases e
      · rfl
      · exact (hne _ f' h' hx).elim
      · rfl
  | .loop a, f, h, r, hx => by
    simp only [xcode] at hx ⊢
    exact xloop_mono (fun f h r hr => xcode_mono hC hn hr) hn hx
  | .exit id, f, h, r, hx => hx
  | .ret, f, h, r, hx => hx
structure XS where
  E : FuncId → Option (List Value → AH → Option (Value × AH))
  T : FuncId → Option XFn
noncomputable abbrev XS.C (S : XS) (k : Nat) : CallT := xcall S.E S.T k
theorem xcall_step (S : XS) : ∀ k, CLe (S.C k) (S.C (k + 1))
  | 0 => fun g a h r hx => by simp [XS.C, xcall] at hx
  | k + 1 => by
    intro g a h r hx
    have ih := xcall_step S k
    simp only [XS.C] at hx ih ⊢
    rw [xcall] at hx ⊢
    split at hx
    · rename_i p hp
      exact hx
    · split at hx
      · cases hx
      · rename_i fn hfn
        split at hx
        · cases hx
        · rename_i e f' h' hne hc
          rw [xcode_mono ih (Nat.le_succ _) hc]
          cases e with
          | exit id => exact (hne id rfl).elim
          | normal => exact hx
          | ret => exact hx
        · cases hx
theorem xcall_mono (S : XS) {k m : Nat} (hk : k ≤ m) : CLe (S.C k) (S.C m) := by
  induction hk with
  | refl => exact fun g a h r hx => hx
  | step _ ih => exact fun g a h r hx => xcall_step S _ g a h r (ih g a h r hx)
def WF (S : XS) (g : FuncId) (args : List Value) (h : AH) (Q : Value → AH → Prop) : Prop := ∃ k v h', xcall S.E S.T k g args h = some (v, h') ∧ Q v h'
def WO (S : XS) (ops : List XI) (f : Fr) (h : AH) (Q : Fr → AH → Prop) : Prop := ∃ k f' h', xops (S.C k) ops f h = some (f', h') ∧ Q f' h'
def WC (S : XS) (c : IR) (f : Fr) (h : AH) (Q : XE → Fr → AH → Prop) : Prop := ∃ k e f' h', xcode (S.C k) k c f h = some (e, f', h') ∧ Q e f' h'
def OQ (r : Option (Value × AH)) (Q : Value → AH → Prop) : Prop := ∃ v h', r = some (v, h') ∧ Q v h'
def WX (S : XS) (o : XOp) (f : Fr) (h : AH) (Q : Value → AH → Prop) : Prop := ∃ k v h', xrun (S.C k) o f h = some (v, h') ∧ Q v h'
theorem WF.mono {S : XS} {g : FuncId} {args : List Value} {h : AH} {Q Q' : Value → AH → Prop} (hw : WF S g args h Q) (hq : ∀ v h', Q v h' → Q' v h') : WF S g args h Q' := by
  obtain ⟨k, v, h', h1, h2⟩ := hw
  exact ⟨k, v, h', h1, hq v h' h2⟩
theorem WC.mono {S : XS} {c : IR} {f : Fr} {h : AH} {Q Q' : XE → Fr → AH → Prop} (hw : WC S c f h Q) (hq : ∀ e f h', Q e f h' → Q' e f h') : WC S c f h Q' := by
  obtain ⟨k, e, f', h', h1, h2⟩ := hw
  exact ⟨k, e, f', h', h1, hq e f' h' h2⟩
@[congr] theorem OQ_congr {r r' : Option (Value × AH)} {Q : Value → AH → Prop} (e : r = r') : OQ r Q = OQ r' Q := by rw [e]
theorem OQ_some {v : Value} {h : AH} {Q : Value → AH → Prop} : OQ (some (v, h)) Q = Q v h := by
  apply propext
  constructor
  · rintro ⟨v', h', e, q⟩
    cases e
    exact q
  · exact fun q => ⟨v, h, rfl, q⟩
theorem OQ_ite {c : Prop} [Decidable c] {v : Value} {h : AH} {Q : Value → AH → Prop} : OQ (if c then some (v, h) else none) Q = (c ∧ Q v h) := by
  apply propext
  split
  · rename_i hc
    rw [OQ_some]
    exact ⟨fun q => ⟨hc, q⟩, fun q => q.2⟩
  · rename_i hc
    exact ⟨fun ⟨_, _, e, _⟩ => (by cases e), fun q => (hc q.1).elim⟩
theorem WO_nil {S : XS} {f : Fr} {h : AH} {Q : Fr → AH → Prop} : WO S [] f h Q = Q f h := by
  apply propext
  constructor
  · rintro ⟨k, f', h', e, q⟩
    cases e
    exact q
  · exact fun q => ⟨0, f, h, rfl, q⟩
theorem WO_run {S : XS} {d : Option Nat} {o : XOp} {g : Option (Nat × Bool)} {q : XQ} {rest : List XI} {f : Fr} {h : AH} {Q : Fr → AH → Prop} (hw : want f g = true) :
    WO S (⟨d, o, g, q⟩ :: rest) f h Q = WX S o f h (fun v h' => qok q o f h h' ∧ WO S rest (updo f d v) h' Q) := by
  apply propext
  constructor
  · rintro ⟨k, f', h', e, p⟩
    simp only [xops] at e
    split at e
    · rename_i f1 h1 he
      unfold xstep at he
      rw [if_pos hw] at he
      split at he
      · rename_i v h2 hr
        split at he
        · rename_i hq
          simp only [Option.some.injEq, Prod.mk.injEq] at he
          obtain ⟨rfl, rfl⟩ := he
          exact ⟨k, v, h2, hr, hq, k, f', h', e, p⟩
        · cases he
      · cases he
    · cases e
  · rintro ⟨k, v, h1, hr, hq, k', f', h', e, p⟩
    refine ⟨max k k', f', h', ?_, p⟩
    simp only [xops]
    have h3 : xstep (S.C (max k k')) ⟨d, o, g, q⟩ f h = some (updo f d v, h1) := by
      unfold xstep
      rw [if_pos hw, xrun_mono (xcall_mono S (Nat.le_max_left k k')) hr]
      simp only
      rw [if_pos hq]
    rw [h3]
    exact xops_mono (xcall_mono S (Nat.le_max_right k k')) e
theorem WO_not {S : XS} {d : Option Nat} {o : XOp} {g : Option (Nat × Bool)} {q : XQ} {rest : List XI} {f : Fr} {h : AH} {Q : Fr → AH → Prop} (hw : want f g = false) :
    WO S (⟨d, o, g, q⟩ :: rest) f h Q = WO S rest (updo f d undef) h Q := by
  have h3 : ∀ k, xstep (S.C k) ⟨d, o, g, q⟩ f h = some (updo f d undef, h) := by
    intro k
    unfold xstep
    rw [if_neg (by rw [hw]; simp)]
  unfold WO
  simp only [xops, h3]
theorem WO_free {S : XS} {d : Option Nat} {o : XOp} {rest : List XI} {f : Fr} {h : AH} {Q : Fr → AH → Prop} :
    WO S (⟨d, o, none, .f⟩ :: rest) f h Q = WX S o f h (fun v h' => WO S rest (updo f d v) h' Q) := by
  rw [WO_run rfl]
  simp only [qok, true_and]
theorem WO_calm {S : XS} {d : Option Nat} {o : XOp} {rest : List XI} {f : Fr} {h : AH} {Q : Fr → AH → Prop} :
    WO S (⟨d, o, none, .t⟩ :: rest) f h Q = WX S o f h (fun v h' => h <+: h' ∧ WO S rest (updo f d v) h' Q) := by
  rw [WO_run rfl]
  simp only [qok, true_and]
def AP (v : Value) (vs : List Value) : Prop := ∃ m, blkV v = some m ∧ ∀ u ∈ vs, ∃ n, blkV u = some n ∧ n ≠ m
def KpV (v : Value) (h h' : AH) : Prop := ∃ m, blkV v = some m ∧ Kp m h h'
theorem AP_nil {p : Addr} : AP (.pointer (some p)) [] = True := by
  apply propext
  exact ⟨fun _ => trivial, fun _ => ⟨p.block, rfl, fun u hu => by simp at hu⟩⟩
theorem AP_cons {p q : Addr} {vs : List Value} : AP (.pointer (some p)) (.pointer (some q) :: vs) = (q.block ≠ p.block ∧ AP (.pointer (some p)) vs) := by
  apply propext
  constructor
  · rintro ⟨m, hm, hu⟩
    cases hm
    refine ⟨?_, p.block, rfl, fun u h => hu u (List.mem_cons_of_mem _ h)⟩
    obtain ⟨n, hn, hne⟩ := hu _ List.mem_cons_self
    cases hn
    exact hne
  · rintro ⟨h1, m, hm, hu⟩
    refine ⟨m, hm, fun u h => ?_⟩
    cases hm
    rcases List.mem_cons.1 h with rfl | h
    · exact ⟨_, rfl, h1⟩
    · exact hu u h
theorem KpV_ptr {p : Addr} {h h' : AH} : KpV (.pointer (some p)) h h' = Kp p.block h h' := by
  apply propext
  constructor
  · rintro ⟨m, hm, hk⟩
    cases hm
    exact hk
  · exact fun hk => ⟨_, rfl, hk⟩
theorem WO_sf {S : XS} {d : Option Nat} {o : XOp} {a : Operand} {l : List Operand} {rest : List XI} {f : Fr} {h : AH} {Q : Fr → AH → Prop} (ho : adrOf o = some a) :
    WO S (⟨d, o, none, .s false l⟩ :: rest) f h Q = (AP (ev f a) (l.map (ev f)) ∧ WO S (⟨d, o, none, .f⟩ :: rest) f h Q) := by
  rw [WO_run rfl, WO_free]
  have e : ∀ h', qok (.s false l) o f h h' = AP (ev f a) (l.map (ev f)) := fun h' => by
    apply propext
    unfold qok AP
    simp only [ho, Option.some.injEq, reduceCtorEq, false_implies, and_true, Bool.false_eq_true]
    constructor
    · rintro ⟨_, m, rfl, hm, hl⟩
      refine ⟨m, hm, fun u hu => ?_⟩
      obtain ⟨x, hx, rfl⟩ := List.mem_map.1 hu
      exact hl x hx
    · rintro ⟨m, hm, hl⟩
      exact ⟨a, m, rfl, hm, fun x hx => hl _ (List.mem_map.2 ⟨x, hx, rfl⟩)⟩
  simp only [e]
  apply propext
  unfold WX
  constructor
  · rintro ⟨k, v, h', hr, hq, hw⟩
    exact ⟨hq, k, v, h', hr, hw⟩
  · rintro ⟨hq, k, v, h', hr, hw⟩
    exact ⟨k, v, h', hr, hq, hw⟩
theorem WO_st {S : XS} {d : Option Nat} {o : XOp} {a : Operand} {l : List Operand} {rest : List XI} {f : Fr} {h : AH} {Q : Fr → AH → Prop} (ho : adrOf o = some a) :
    WO S (⟨d, o, none, .s true l⟩ :: rest) f h Q = (AP (ev f a) (l.map (ev f)) ∧ WX S o f h (fun v h' => KpV (ev f a) h h' ∧ WO S rest (updo f d v) h' Q)) := by
  rw [WO_run rfl]
  have e : ∀ h', qok (.s true l) o f h h' = (AP (ev f a) (l.map (ev f)) ∧ KpV (ev f a) h h') := fun h' => by
    apply propext
    unfold qok AP KpV
    simp only [ho, Option.some.injEq, true_implies]
    constructor
    · rintro ⟨_, m, rfl, hm, hl, hk⟩
      refine ⟨⟨m, hm, fun u hu => ?_⟩, m, hm, hk⟩
      obtain ⟨x, hx, rfl⟩ := List.mem_map.1 hu
      exact hl x hx
    · rintro ⟨⟨m, hm, hl⟩, m', hm', hk⟩
      rw [hm] at hm'
      cases hm'
      exact ⟨a, m, rfl, hm, fun x hx => hl _ (List.mem_map.2 ⟨x, hx, rfl⟩), hk⟩
  simp only [e]
  apply propext
  unfold WX
  constructor
  · rintro ⟨k, v, h', hr, hq, hw⟩
    exact ⟨hq.1, k, v, h', hr, hq.2, hw⟩
  · rintro ⟨hq, k, v, h', hr, hk, hw⟩
    exact ⟨k, v, h', hr, ⟨hq, hk⟩, hw⟩
section
variable {S : XS} {d : Option Nat} {a x : Operand} {l : List Operand} {n : Nat} {rest : List XI} {f : Fr} {h : AH} {Q : Fr → AH → Prop} {fo : Operand} {as : List Operand}
theorem WO_sload1 : WO S (⟨d, .load1 a, none, .s false l⟩ :: rest) f h Q = (AP (ev f a) (l.map (ev f)) ∧ WO S (⟨d, .load1 a, none, .f⟩ :: rest) f h Q) := WO_sf rfl
theorem WO_sloadn : WO S (⟨d, .loadn n a, none, .s false l⟩ :: rest) f h Q = (AP (ev f a) (l.map (ev f)) ∧ WO S (⟨d, .loadn n a, none, .f⟩ :: rest) f h Q) := WO_sf rfl
theorem WO_sstore : WO S (⟨d, .store n a x, none, .s false l⟩ :: rest) f h Q = (AP (ev f a) (l.map (ev f)) ∧ WO S (⟨d, .store n a x, none, .f⟩ :: rest) f h Q) := WO_sf rfl
theorem WO_scall : WO S (⟨d, .call fo (a :: as), none, .s true l⟩ :: rest) f h Q = (AP (ev f a) (l.map (ev f)) ∧ WX S (.call fo (a :: as)) f h (fun v h' => KpV (ev f a) h h' ∧ WO S rest (updo f d v) h' Q)) := WO_st rfl
end
def WG (S : XS) (v : Value) (b : Bool) (i : XI) (rest : List XI) (f : Fr) (h : AH) (Q : Fr → AH → Prop) : Prop := match v with
  | .bool c => if c = b then WO S (⟨i.d, i.o, none, i.q⟩ :: rest) f h Q else WO S rest (updo f i.d undef) h Q
  | _ => WO S rest (updo f i.d undef) h Q
@[congr] theorem WG_congr {S : XS} {v v' : Value} {b : Bool} {i : XI} {rest : List XI} {f : Fr} {h : AH} {Q : Fr → AH → Prop} (e : v = v') : WG S v b i rest f h Q = WG S v' b i rest f h Q := by rw [e]
theorem WO_guard {S : XS} {d : Option Nat} {o : XOp} {s : Nat} {b : Bool} {q : XQ} {rest : List XI} {f : Fr} {h : AH} {Q : Fr → AH → Prop} :
    WO S (⟨d, o, some (s, b), q⟩ :: rest) f h Q = WG S (f s) b ⟨d, o, none, q⟩ rest f h Q := by
  unfold WG
  split
  · rename_i c hc
    split
    · rename_i e
      rw [WO_run (by simp [want, hc, e]), WO_run rfl]
    · rename_i e
      rw [WO_not (by simp [want, hc, e])]
  · rename_i hne
    rw [WO_not]
    unfold want
    split
    · rename_i h1
      cases h1
    · rename_i s' b' h1
      cases h1
      split
      · rename_i c hc
        exact (hne c hc).elim
      · rfl
theorem WG_tt {S : XS} {i : XI} {rest : List XI} {f : Fr} {h : AH} {Q : Fr → AH → Prop} : WG S (.bool true) true i rest f h Q = WO S (⟨i.d, i.o, none, i.q⟩ :: rest) f h Q := rfl
theorem WG_ff {S : XS} {i : XI} {rest : List XI} {f : Fr} {h : AH} {Q : Fr → AH → Prop} : WG S (.bool false) false i rest f h Q = WO S (⟨i.d, i.o, none, i.q⟩ :: rest) f h Q := rfl
theorem WG_tf {S : XS} {i : XI} {rest : List XI} {f : Fr} {h : AH} {Q : Fr → AH → Prop} : WG S (.bool true) false i rest f h Q = WO S rest (updo f i.d undef) h Q := rfl
theorem WG_ft {S : XS} {i : XI} {rest : List XI} {f : Fr} {h : AH} {Q : Fr → AH → Prop} : WG S (.bool false) true i rest f h Q = WO S rest (updo f i.d undef) h Q := rfl
theorem WX_op {S : XS} {o : XOp} {f : Fr} {h : AH} {Q : Value → AH → Prop} (ho : ∀ C, xrun C o f h = xop o f h) : WX S o f h Q = OQ (xop o f h) Q := by
  unfold WX OQ
  simp only [ho]
  apply propext
  exact ⟨fun ⟨_, v, h', e, q⟩ => ⟨v, h', e, q⟩, fun ⟨v, h', e, q⟩ => ⟨0, v, h', e, q⟩⟩
theorem WX_call {S : XS} {fo : Operand} {args : List Operand} {f : Fr} {h : AH} {Q : Value → AH → Prop} {g : FuncId} {cap : Array Value} (he : ev f fo = .func (.func g) #[] cap) :
    WX S (.call fo args) f h Q = WF S g (args.map (ev f) ++ cap.toList) h Q := by
  unfold WX WF
  simp only [xrun, he]
  rfl
theorem WX_callf {S : XS} {g : FuncId} {args : List Operand} {f : Fr} {h : AH} {Q : Value → AH → Prop} :
    WX S (.call (.func g) args) f h Q = WF S g (args.map (ev f)) h Q := by
  rw [WX_call (g := g) (cap := #[]) rfl]
  simp
def SeqQ (S : XS) (b : IR) (Q : XE → Fr → AH → Prop) : XE → Fr → AH → Prop
  | .normal, f, h => WC S b f h Q
  | .exit id, f, h => Q (.exit id) f h
  | .ret, f, h => Q .ret f h
def BlkQ (id : Nat) (Q : XE → Fr → AH → Prop) : XE → Fr → AH → Prop
  | .normal, f, h => Q .normal f h
  | .exit id', f, h => if id' = id then Q .normal f h else Q (.exit id') f h
  | .ret, f, h => Q .ret f h
def RegQ (Q : XE → Fr → AH → Prop) : Fr → AH → Prop := fun f h => Q .normal f h
def IfW (b : Value) (A B : Prop) : Prop := match b with
  | .bool true => A
  | .bool false => B
  | _ => False
@[congr] theorem IfW_congr {b b' : Value} {A B : Prop} (e : b = b') : IfW b A B = IfW b' A B := by rw [e]
theorem IfW_t {A B : Prop} : IfW (.bool true) A B = A := rfl
theorem IfW_f {A B : Prop} : IfW (.bool false) A B = B := rfl
theorem IfW_dec {p : Prop} [Decidable p] {A B : Prop} : IfW (.bool (decide p)) A B ↔ (p → A) ∧ (¬ p → B) := by
  by_cases hp : p <;> simp [hp, IfW]
theorem IfW_b {b : Bool} {A B : Prop} : IfW (.bool b) A B ↔ (b = true → A) ∧ (b = false → B) := by
  cases b <;> simp [IfW]
theorem WC_skip {S : XS} {f : Fr} {h : AH} {Q : XE → Fr → AH → Prop} : WC S .skip f h Q = Q .normal f h := by
  apply propext
  exact ⟨fun ⟨k, e, f', h', h1, h2⟩ => by cases h1; exact h2, fun q => ⟨0, _, _, _, rfl, q⟩⟩
theorem WC_exit {S : XS} {id : Nat} {f : Fr} {h : AH} {Q : XE → Fr → AH → Prop} : WC S (.exit id) f h Q = Q (.exit id) f h := by
  apply propext
  exact ⟨fun ⟨k, e, f', h', h1, h2⟩ => by cases h1; exact h2, fun q => ⟨0, _, _, _, rfl, q⟩⟩
theorem WC_ret {S : XS} {f : Fr} {h : AH} {Q : XE → Fr → AH → Prop} : WC S .ret f h Q = Q .ret f h := by
  apply propext
  exact ⟨fun ⟨k, e, f', h', h1, h2⟩ => by cases h1; exact h2, fun q => ⟨0, _, _, _, rfl, q⟩⟩
theorem WC_reg {S : XS} {ops : List XI} {f : Fr} {h : AH} {Q : XE → Fr → AH → Prop} : WC S (.reg ops) f h Q = WO S ops f h (RegQ Q) := by
  apply propext
  constructor
  · rintro ⟨k, e, f', h', h1, h2⟩
    simp only [xcode] at h1
    split at h1
    · rename_i f1 h3 h4
      cases h1
      exact ⟨k, _, _, h4, h2⟩
    · cases h1
  · rintro ⟨k, f', h', h1, h2⟩
    refine ⟨k, .normal, f', h', ?_, h2⟩
    simp only [xcode, h1]
theorem WC_seq {S : XS} {a b : IR} {f : Fr} {h : AH} {Q : XE → Fr → AH → Prop} : WC S (.seq a b) f h Q = WC S a f h (SeqQ S b Q) := by
  apply propext
  constructor
  · rintro ⟨k, e, f', h', h1, h2⟩
    simp only [xcode] at h1
    split at h1
    · rename_i f1 h3 h4
      exact ⟨k, _, _, _, h4, k, _, _, _, h1, h2⟩
    · rename_i hne
      refine ⟨k, e, f', h', h1, ?_⟩
      cases e
      · exact (hne _ _ h1).elim
      · exact h2
      · exact h2
  · rintro ⟨k, e, f', h', h1, h2⟩
    cases e with
    | normal =>
      obtain ⟨k', e1, f1, h3, h4, h5⟩ := h2
      refine ⟨max k k', e1, f1, h3, ?_, h5⟩
      simp only [xcode]
      rw [xcode_mono (xcall_mono S (Nat.le_max_left k k')) (Nat.le_max_left k k') h1]
      exact xcode_mono (xcall_mono S (Nat.le_max_right k k')) (Nat.le_max_right k k') h4
    | exit id =>
      refine ⟨k, .exit id, f', h', ?_, h2⟩
      simp only [xcode, h1]
    | ret =>
      refine ⟨k, .ret, f', h', ?_, h2⟩
      simp only [xcode, h1]
theorem WC_cond {S : XS} {c : Operand} {a b : IR} {f : Fr} {h : AH} {Q : XE → Fr → AH → Prop} : WC S (.cond c a b) f h Q = IfW (ev f c) (WC S a f h Q) (WC S b f h Q) := by
  unfold WC IfW
  simp only [xcode]
  split
  · rename_i e
    simp only [e]
  · rename_i e
    simp only [e]
  · rename_i hne1 hne2
    apply propext
    refine ⟨fun ⟨k, e, f', h', h1, h2⟩ => (by cases h1), fun q => ?_⟩
    split at q
    · rename_i e
      exact (hne1 e).elim
    · rename_i e
      exact (hne2 e).elim
    · exact q.elim
theorem WC_blk {S : XS} {id : Nat} {a : IR} {f : Fr} {h : AH} {Q : XE → Fr → AH → Prop} : WC S (.blk id a) f h Q = WC S a f h (BlkQ id Q) := by
  apply propext
  constructor
  · rintro ⟨k, e, f', h', h1, h2⟩
    simp only [xcode] at h1
    split at h1
    · rename_i id' f1 h3 h4
      refine ⟨k, _, _, _, h4, ?_⟩
      unfold BlkQ
      simp only
      split at h1
      · rename_i he
        cases h1
        rw [if_pos he]
        exact h2
      · rename_i he
        cases h1
        rw [if_neg he]
        exact h2
    · rename_i hne
      refine ⟨k, e, f', h', h1, ?_⟩
      cases e
      · exact h2
      · exact (hne _ _ _ h1).elim
      · exact h2
  · rintro ⟨k, e, f', h', h1, h2⟩
    cases e with
    | normal =>
      refine ⟨k, .normal, f', h', ?_, h2⟩
      simp only [xcode, h1]
    | exit id' =>
      simp only [BlkQ] at h2
      split at h2
      · rename_i he
        refine ⟨k, .normal, f', h', ?_, h2⟩
        simp only [xcode, h1, he, if_true]
      · rename_i he
        refine ⟨k, .exit id', f', h', ?_, h2⟩
        simp only [xcode, h1, he, if_false]
    | ret =>
      refine ⟨k, .ret, f', h', ?_, h2⟩
      simp only [xcode, h1]
def LoopQ (S : XS) (a : IR) (Q : XE → Fr → AH → Prop) : XE → Fr → AH → Prop
  | .normal, f, h => WC S (.loop a) f h Q
  | .exit id, f, h => Q (.exit id) f h
  | .ret, f, h => Q .ret f h
theorem WC_loop {S : XS} {a : IR} {f : Fr} {h : AH} {Q : XE → Fr → AH → Prop} (hw : WC S a f h (LoopQ S a Q)) : WC S (.loop a) f h Q := by
  obtain ⟨k, e, f', h', h1, h2⟩ := hw
  cases e with
  | normal =>
    obtain ⟨k', e1, f1, h3, h4, h5⟩ := h2
    refine ⟨max k k' + 1, e1, f1, h3, ?_, h5⟩
    simp only [xcode] at h4 ⊢
    simp only [xloop]
    rw [xcode_mono (xcall_mono S (show k ≤ max k k' + 1 by omega)) (show k ≤ max k k' + 1 by omega) h1]
    exact xloop_mono (fun f h r hr => xcode_mono (xcall_mono S (by omega)) (by omega) hr) (by omega) h4
  | exit id =>
    refine ⟨k + 1, _, _, _, ?_, h2⟩
    simp only [xcode, xloop]
    rw [xcode_mono (xcall_mono S (show k ≤ k + 1 by omega)) (show k ≤ k + 1 by omega) h1]
  | ret =>
    refine ⟨k + 1, _, _, _, ?_, h2⟩
    simp only [xcode, xloop]
    rw [xcode_mono (xcall_mono S (show k ≤ k + 1 by omega)) (show k ≤ k + 1 by omega) h1]
def InvQ (I : Nat → Fr → AH → Prop) (n : Nat) (Q : XE → Fr → AH → Prop) : XE → Fr → AH → Prop
  | .normal, f, h => ∃ m, m < n ∧ I m f h
  | .exit id, f, h => Q (.exit id) f h
  | .ret, f, h => Q .ret f h
theorem WC_loop_inv {S : XS} {a : IR} {Q : XE → Fr → AH → Prop} (I : Nat → Fr → AH → Prop) (step : ∀ n f h, I n f h → WC S a f h (InvQ I n Q)) : ∀ n f h, I n f h → WC S (.loop a) f h Q := by
  intro n
  induction n using Nat.strongRecOn with
  | _ n ih =>
    intro f h hI
    refine WC_loop ((step n f h hI).mono fun e f' h' q => ?_)
    cases e with
    | normal =>
      obtain ⟨m, hm, hI'⟩ := q
      exact ih m hm f' h' hI'
    | exit id => exact q
    | ret => exact q
def RetQ (rs : List XRes) (Q : Value → AH → Prop) : XE → Fr → AH → Prop
  | .exit _, _, _ => False
  | _, f, h => OQ ((xres f h rs).map (·, h)) Q
theorem WF_fn {S : XS} {g : FuncId} {fn : XFn} {args : List Value} {h : AH} {Q : Value → AH → Prop} (hE : S.E g = none) (hT : S.T g = some fn)
    (hw : WC S fn.body (fun j => args.getD j undef) h (RetQ fn.res Q)) : WF S g args h Q := by
  obtain ⟨k, e, f', h', h1, h2⟩ := hw
  cases e with
  | exit id => exact h2.elim
  | normal =>
    obtain ⟨v, h3, h4, h5⟩ := h2
    obtain ⟨u, hu, e⟩ := Option.map_eq_some_iff.1 h4
    cases e
    refine ⟨k + 1, v, h', ?_, h5⟩
    simp only [xcall, hE, hT]
    rw [xcode_mono (fun g a h r hr => hr) (Nat.le_succ k) h1]
    simp only [hu]
  | ret =>
    obtain ⟨v, h3, h4, h5⟩ := h2
    obtain ⟨u, hu, e⟩ := Option.map_eq_some_iff.1 h4
    cases e
    refine ⟨k + 1, v, h', ?_, h5⟩
    simp only [xcall, hE, hT]
    rw [xcode_mono (fun g a h r hr => hr) (Nat.le_succ k) h1]
    simp only [hu]
theorem tsound_of_all {P : Program} {tab : List (Nat × XFn)} (hs : ∀ p ∈ tab, ∃ fn, P.funcs[p.1]? = some fn ∧ compFn P fn = some p.2) : TSound P (fun g => tab.lookup g) := by
  intro g x hx
  have gen : ∀ l : List (Nat × XFn), l.lookup g = some x → (g, x) ∈ l := by
    intro l
    induction l with
    | nil => intro h; simp at h
    | cons p l ih =>
      intro h
      obtain ⟨a, b⟩ := p
      rw [List.lookup_cons] at h
      split at h
      · rename_i e
        have e' : g = a := by simpa using e
        cases h
        subst e'
        exact List.mem_cons_self
      · exact List.mem_cons_of_mem _ (ih h)
  exact hs (g, x) (gen tab hx)
end Go.Proofs.Ytapafdpnmakekaa.X

set_option linter.unusedVariables false
set_option linter.unusedSimpArgs false
set_option linter.defProp false
namespace Go.Proofs.Ytapafdpnmakekaa.X
open Go Go.RowKit
theorem upd_apply {f : Fr} {i j : Nat} {v : Value} : upd f i v j = if j = i then v else f j := rfl
theorem updo_some {f : Fr} {i : Nat} {v : Value} : updo f (some i) v = upd f i v := rfl
theorem updo_none {f : Fr} {v : Value} : updo f none v = f := rfl
theorem ev_tmp {f : Fr} {i : Nat} : ev f (.tmp i) = f i := rfl
theorem ev_const {f : Fr} {v : Value} : ev f (.const v) = v := rfl
theorem ev_func {f : Fr} {g : FuncId} : ev f (.func g) = .func (.func g) #[] #[] := rfl
def QV (v : Value) (Q : Value → Prop) : Prop := Q v
@[congr] theorem QV_congr {v v' : Value} {Q : Value → Prop} (e : v = v') : QV v Q = QV v' Q := by rw [e]
theorem QV_eq {v : Value} {Q : Value → Prop} : QV v Q = Q v := rfl
def WV (r : Option Value) (Q : Value → Prop) : Prop := ∃ v, r = some v ∧ Q v
@[congr] theorem WV_congr {v v' : Option Value} {Q : Value → Prop} (e : v = v') : WV v Q = WV v' Q := by rw [e]
theorem WV_some {v : Value} {Q : Value → Prop} : WV (some v) Q = Q v := by
  apply propext
  exact ⟨fun ⟨v', e, q⟩ => by cases e; exact q, fun q => ⟨v, rfl, q⟩⟩
theorem WV_ite {c : Prop} [Decidable c] {v : Value} {Q : Value → Prop} : WV (if c then some v else none) Q = (c ∧ Q v) := by
  apply propext
  split
  · rename_i hc
    rw [WV_some]
    exact ⟨fun q => ⟨hc, q⟩, fun q => q.2⟩
  · rename_i hc
    exact ⟨fun ⟨_, e, _⟩ => (by cases e), fun q => (hc q.1).elim⟩
def HQ (r : Option AH) (Q : AH → Prop) : Prop := ∃ h, r = some h ∧ Q h
@[congr] theorem HQ_congr {v v' : Option AH} {Q : AH → Prop} (e : v = v') : HQ v Q = HQ v' Q := by rw [e]
theorem HQ_some {v : AH} {Q : AH → Prop} : HQ (some v) Q = Q v := by
  apply propext
  exact ⟨fun ⟨v', e, q⟩ => by cases e; exact q, fun q => ⟨v, rfl, q⟩⟩
def PQ (v : Value) (Q : Nat → Nat → Prop) : Prop := match v with
  | .pointer (some p) => Q p.block p.off
  | _ => False
@[congr] theorem PQ_congr {v v' : Value} {Q : Nat → Nat → Prop} (e : v = v') : PQ v Q = PQ v' Q := by rw [e]
theorem PQ_ptr {p : Addr} {Q : Nat → Nat → Prop} : PQ (.pointer (some p)) Q = Q p.block p.off := rfl
def LQ (l : List Value) (Q : List Value → Prop) : Prop := Q l
@[congr] theorem LQ_congr {v v' : List Value} {Q : List Value → Prop} (e : v = v') : LQ v Q = LQ v' Q := by rw [e]
theorem LQ_eq {v : List Value} {Q : List Value → Prop} : LQ v Q = Q v := rfl
@[congr] theorem WF_congr {S : XS} {g : FuncId} {args args' : List Value} {h : AH} {Q : Value → AH → Prop} (e : args = args') : WF S g args h Q = WF S g args' h Q := by rw [e]
def cellsL (v : Value) : List Value := v.cells.toList
theorem cellsL_agg {xs : Array Value} : cellsL (.agg xs) = xs.toList := rfl
theorem cellsL_int {k : IntKind} {n : Int} : cellsL (.int k n) = [.int k n] := rfl
theorem cellsL_bool {n : Bool} : cellsL (.bool n) = [.bool n] := rfl
theorem cellsL_slice {a : Option Addr} {n c : Nat} : cellsL (.slice a n c) = [.slice a n c] := rfl
theorem cellsL_ptr {a : Option Addr} : cellsL (.pointer a) = [.pointer a] := rfl
theorem cellsL_func {g : Fn} {a b : Array Value} : cellsL (.func g a b) = [.func g a b] := rfl
theorem OQ_none {Q : Value → AH → Prop} : OQ none Q = False := by simp [OQ]
theorem WV_none {Q : Value → Prop} : WV none Q = False := by simp [WV]
theorem HQ_none {Q : AH → Prop} : HQ none Q = False := by simp [HQ]
def pickV (c a b : Value) : Option Value := match c with
  | .bool t => some (if t then a else b)
  | _ => none
theorem pickV_t {a b : Value} : pickV (.bool true) a b = some a := rfl
theorem pickV_f {a b : Value} : pickV (.bool false) a b = some b := rfl
def fstV (cs : Value) (off : Nat) : Option Value := match cs with
  | .agg cs => cs.toList[off]?
  | _ => none
theorem fstV_agg {xs : Array Value} {off : Nat} : fstV (.agg xs) off = xs.toList[off]? := rfl
def extV (cs : Value) (off : Nat) : Option Value := match cs with
  | .tuple cs => cs.toList[off]?
  | _ => none
theorem extV_tuple {xs : Array Value} {off : Nat} : extV (.tuple xs) off = xs.toList[off]? := rfl
def lenV (v : Value) : Option Value := match v with
  | .slice _ n _ => some (.int .i64 n)
  | _ => none
theorem lenV_slice {a : Option Addr} {n c : Nat} : lenV (.slice a n c) = some (.int .i64 n) := rfl
def ixsV (sz : Nat) (x i : Value) : Option Value := match x, i with
  | .slice (some ⟨n, off, _⟩) len sz', .int _ j => if 0 ≤ j ∧ j < len ∧ sz' = sz then some (.pointer (some ⟨n, off + j.toNat * sz, none⟩)) else none
  | _, _ => none
theorem ixsV_some {sz n off len sz' : Nat} {sp : Option Nat} {k : IntKind} {j : Int} : ixsV sz (.slice (some ⟨n, off, sp⟩) len sz') (.int k j) = if 0 ≤ j ∧ j < len ∧ sz' = sz then some (.pointer (some ⟨n, off + j.toNat * sz, none⟩)) else none := rfl
def convV (k : IntKind) (x : Value) : Option Value := match x with
  | .int _ n => some (.int k (k.wrap n))
  | _ => none
theorem convV_int {k k' : IntKind} {n : Int} : convV k (.int k' n) = some (.int k (k.wrap n)) := rfl
def mksV (e : TypeId) (sz bytes : Nat) (z : List Value) (len : Value) (h : AH) : Option (Value × AH) := match len with
  | .int _ n => if 0 ≤ n ∧ n * bytes ≤ 140737488355328 ∧ n ≤ 9223372036854775807 then some (.slice (some ⟨h.length, 0, none⟩) n.toNat sz, h.new ⟨zrep n.toNat z, e, false, true⟩) else none
  | _ => none
theorem mksV_int {e : TypeId} {sz bytes : Nat} {z : List Value} {k : IntKind} {n : Int} {h : AH} : mksV e sz bytes z (.int k n) h =
    if 0 ≤ n ∧ n * bytes ≤ 140737488355328 ∧ n ≤ 9223372036854775807 then some (.slice (some ⟨h.length, 0, none⟩) n.toNat sz, h.new ⟨zrep n.toNat z, e, false, true⟩) else none := rfl
def appV (e : TypeId) (sz bytes : Nat) (s x : Value) (h : AH) : Option (Value × AH) := xop (.app e sz bytes (.const s) (.const x)) (fun _ => undef) h
def eqaV (neg : Bool) (n : Nat) (x y : Value) : Option Value := match x, y with
  | .agg xs, .agg ys => match intsOf xs.toList, intsOf ys.toList with
    | some (k, as), some (k', bs) => if k = k' ∧ as.length = n ∧ bs.length = n then some (.bool ((as == bs) != neg)) else none
    | _, _ => none
  | _, _ => none
theorem eqa3 {neg : Bool} {a b c a' b' c' : Int} : eqaV neg 3 (.agg #[.int .i64 a, .int .i64 b, .int .i64 c]) (.agg #[.int .i64 a', .int .i64 b', .int .i64 c']) = some (.bool (decide (a = a' ∧ b = b' ∧ c = c') != neg)) := by
  have e : ([a, b, c] == [a', b', c']) = decide (a = a' ∧ b = b' ∧ c = c') := by
    by_cases h1 : a = a' <;> by_cases h2 : b = b' <;> by_cases h3 : c = c' <;> simp [h1, h2, h3]
  simp [eqaV, intsOf, e]
def eqbV (neg : Bool) (x y : Value) : Option Value := match x, y with
  | .bool a, .bool b => some (.bool ((a == b) != neg))
  | _, _ => none
theorem eqbV_b {neg a b : Bool} : eqbV neg (.bool a) (.bool b) = some (.bool ((a == b) != neg)) := rfl
section
variable {S : XS} {f : Fr} {h : AH} {Q : Value → AH → Prop} {x y a b c : Operand}
theorem WX_mv : WX S (.mv x) f h Q = QV (ev f x) (fun v => Q v h) := by rw [WX_op (fun _ => rfl)]; exact OQ_some
theorem WX_pick : WX S (.pick c a b) f h Q = WV (pickV (ev f c) (ev f a) (ev f b)) (fun v => Q v h) := by
  rw [WX_op (fun _ => rfl)]
  simp only [xop, pickV]
  generalize ev f c = vc
  cases vc <;> simp [OQ_some, WV_some, OQ_none, WV_none]
theorem WX_alloc {e : TypeId} {z : List Value} : WX S (.alloc e z) f h Q = Q (.pointer (some ⟨h.length, 0, none⟩)) (h.new ⟨z, e, false, true⟩) := by rw [WX_op (fun _ => rfl)]; exact OQ_some
theorem WX_box {e : TypeId} : WX S (.box e x) f h Q = LQ (cellsL (ev f x)) fun c => c.all isOne = true ∧ Q (.pointer (some ⟨h.length, 0, none⟩)) (h.new ⟨c, e, false, true⟩) := by
  rw [WX_op (fun _ => rfl)]; exact OQ_ite
theorem WX_boxn {e : TypeId} {n : Nat} : WX S (.boxn e n x) f h Q = LQ (cellsL (ev f x)) fun c => (c.length = n ∧ c.all isOne = true) ∧ Q (.pointer (some ⟨h.length, 0, none⟩)) (h.new ⟨c, e, false, true⟩) := by
  rw [WX_op (fun _ => rfl)]; exact OQ_ite
theorem ptr_cases (v : Value) : (∃ p, v = .pointer (some p)) ∨ ∀ p, v ≠ .pointer (some p) := by
  cases v
  case pointer a =>
    cases a with
    | none => exact .inr (by simp)
    | some p => exact .inl ⟨p, rfl⟩
  all_goals exact .inr (by simp)
theorem WX_load1 : WX S (.load1 a) f h Q = PQ (ev f a) fun n off => WV (h.rd1 n off) fun v => Q v h := by
  rw [WX_op (fun _ => rfl)]
  simp only [xop]
  rcases ptr_cases (ev f a) with ⟨p, e⟩ | hne
  · rw [e]
    simp only [PQ]
    cases h.rd1 p.block p.off <;> simp [OQ_some, WV_some, OQ_none, WV_none]
  · generalize ev f a = va at hne
    cases va with
    | pointer q => cases q with
      | none => simp [OQ_none, PQ]
      | some q => exact (hne q rfl).elim
    | _ => simp [OQ_none, PQ]
theorem WX_loadn {n : Nat} : WX S (.loadn n a) f h Q = PQ (ev f a) fun m off => WV ((h.rdn m off n).map fun c => .agg c.toArray) fun v => Q v h := by
  rw [WX_op (fun _ => rfl)]
  simp only [xop]
  rcases ptr_cases (ev f a) with ⟨p, e⟩ | hne
  · rw [e]
    simp only [PQ]
    cases h.rdn p.block p.off n <;> simp [OQ_some, WV_some, OQ_none, WV_none]
  · generalize ev f a = va at hne
    cases va with
    | pointer q => cases q with
      | none => simp [OQ_none, PQ]
      | some q => exact (hne q rfl).elim
    | _ => simp [OQ_none, PQ]
theorem WX_store {n : Nat} : WX S (.store n a x) f h Q = PQ (ev f a) fun m off => LQ (cellsL (ev f x)) fun c => (c.length = n ∧ c.all isOne = true) ∧ HQ (h.wr m off c) fun h' => Q undef h' := by
  rw [WX_op (fun _ => rfl)]
  simp only [xop]
  rcases ptr_cases (ev f a) with ⟨p, e⟩ | hne
  · rw [e]
    simp only [PQ, LQ, cellsL]
    apply propext
    split
    · rename_i hc
      cases h.wr p.block p.off (ev f x).cells.toList with
      | none => simp [OQ_none, HQ_none]
      | some h' => simp [OQ_some, HQ_some, hc]
    · rename_i hc
      exact ⟨fun ⟨_, _, q, _⟩ => (by cases q), fun q => (hc q.1).elim⟩
  · generalize ev f a = va at hne
    cases va with
    | pointer q => cases q with
      | none => simp [OQ_none, PQ]
      | some q => exact (hne q rfl).elim
    | _ => simp [OQ_none, PQ]
theorem WX_bin {op : BinOp} : WX S (.bin op x y) f h Q = WV (xbin op (ev f x) (ev f y)) fun v => Q v h := by
  rw [WX_op (fun _ => rfl)]
  simp only [xop]
  cases xbin op (ev f x) (ev f y) <;> simp [OQ_some, WV_some, OQ_none, WV_none]
theorem WX_un {op : UnOp} : WX S (.un op x) f h Q = WV (xun op (ev f x)) fun v => Q v h := by
  rw [WX_op (fun _ => rfl)]
  simp only [xop]
  cases xun op (ev f x) <;> simp [OQ_some, WV_some, OQ_none, WV_none]
theorem WX_conv {k : IntKind} : WX S (.conv k x) f h Q = WV (convV k (ev f x)) fun v => Q v h := by
  rw [WX_op (fun _ => rfl)]
  simp only [xop, convV]
  generalize ev f x = vc
  cases vc <;> simp [OQ_some, WV_some, OQ_none, WV_none]
theorem WX_fadr {off : Nat} : WX S (.fadr off x) f h Q = PQ (ev f x) fun n o => Q (.pointer (some ⟨n, o + off, none⟩)) h := by
  rw [WX_op (fun _ => rfl)]
  simp only [xop]
  rcases ptr_cases (ev f x) with ⟨p, e⟩ | hne
  · rw [e]
    simp [PQ, OQ_some]
  · generalize ev f x = va at hne
    cases va with
    | pointer q => cases q with
      | none => simp [OQ_none, PQ]
      | some q => exact (hne q rfl).elim
    | _ => simp [OQ_none, PQ]
theorem WX_fld1 {off : Nat} : WX S (.fld1 off x) f h Q = WV (fstV (ev f x) off) fun v => Q v h := by
  rw [WX_op (fun _ => rfl)]
  simp only [xop, fstV]
  generalize ev f x = vc
  cases vc
  case agg cs =>
    simp only
    cases cs.toList[off]? <;> simp [OQ_some, WV_some, OQ_none, WV_none]
  all_goals simp [OQ_some, WV_some, OQ_none, WV_none]
theorem WX_ext {i : Nat} : WX S (.ext x i) f h Q = WV (extV (ev f x) i) fun v => Q v h := by
  rw [WX_op (fun _ => rfl)]
  simp only [xop, extV]
  generalize ev f x = vc
  cases vc
  case tuple cs =>
    simp only
    cases cs.toList[i]? <;> simp [OQ_some, WV_some, OQ_none, WV_none]
  all_goals simp [OQ_some, WV_some, OQ_none, WV_none]
def capV (v : Value) : Option Value := match v with
  | .slice none 0 0 => some (.int .i64 0)
  | _ => none
theorem capV_nil : capV (.slice none 0 0) = some (.int .i64 0) := rfl
theorem WX_cap : WX S (.cap x) f h Q = WV (capV (ev f x)) fun v => Q v h := by
  rw [WX_op (fun _ => rfl)]
  simp only [xop, capV]
  generalize ev f x = vx
  split <;> simp [OQ_some, WV_some, OQ_none, WV_none]
theorem WX_len : WX S (.len x) f h Q = WV (lenV (ev f x)) fun v => Q v h := by
  rw [WX_op (fun _ => rfl)]
  simp only [xop, lenV]
  generalize ev f x = vc
  cases vc <;> simp [OQ_some, WV_some, OQ_none, WV_none]
theorem WX_ixs {sz : Nat} : WX S (.ixs sz x y) f h Q = WV (ixsV sz (ev f x) (ev f y)) fun v => Q v h := by
  rw [WX_op (fun _ => rfl)]
  have : xop (.ixs sz x y) f h = (ixsV sz (ev f x) (ev f y)).map (·, h) := by
    simp only [xop, ixsV]
    generalize ev f x = vx
    generalize ev f y = vy
    cases vx <;> try rfl
    rename_i a len sz'
    cases a <;> try rfl
    cases vy <;> try rfl
    simp only
    split <;> rfl
  rw [this]
  cases ixsV sz (ev f x) (ev f y) <;> simp [OQ_some, WV_some, OQ_none, WV_none]
theorem WX_eqb {neg : Bool} : WX S (.eqb neg x y) f h Q = WV (eqbV neg (ev f x) (ev f y)) fun v => Q v h := by
  rw [WX_op (fun _ => rfl)]
  have : xop (.eqb neg x y) f h = (eqbV neg (ev f x) (ev f y)).map (·, h) := by
    simp only [xop, eqbV]
    generalize ev f x = vx
    generalize ev f y = vy
    cases vx <;> try rfl
    cases vy <;> rfl
  rw [this]
  cases eqbV neg (ev f x) (ev f y) <;> simp [OQ_some, WV_some, OQ_none, WV_none]
theorem WX_eqa {neg : Bool} {n : Nat} : WX S (.eqa neg n x y) f h Q = WV (eqaV neg n (ev f x) (ev f y)) fun v => Q v h := by
  rw [WX_op (fun _ => rfl)]
  have : xop (.eqa neg n x y) f h = (eqaV neg n (ev f x) (ev f y)).map (·, h) := by
    simp only [xop, eqaV]
    generalize ev f x = vx
    generalize ev f y = vy
    cases vx <;> try rfl
    cases vy <;> try rfl
    rename_i xs ys
    simp only
    cases intsOf xs.toList with
    | none => rfl
    | some a =>
      cases intsOf ys.toList with
      | none => rfl
      | some b =>
        simp only
        split <;> rfl
  rw [this]
  cases eqaV neg n (ev f x) (ev f y) <;> simp [OQ_some, WV_some, OQ_none, WV_none]
theorem WX_mks {e : TypeId} {sz bytes : Nat} {z : List Value} : WX S (.mks e sz bytes z x) f h Q = OQ (mksV e sz bytes z (ev f x) h) Q := by
  rw [WX_op (fun _ => rfl)]
  rfl
def nchkV (v : Value) : Option Value := match v with
  | .pointer (some p) => some (.pointer (some p))
  | _ => none
theorem nchkV_p {n off : Nat} {s : Option Nat} : nchkV (.pointer (some ⟨n, off, s⟩)) = some (.pointer (some ⟨n, off, s⟩)) := rfl
theorem WX_nchk : WX S (.nchk x) f h Q = WV (nchkV (ev f x)) fun v => Q v h := by
  rw [WX_op (fun _ => rfl)]
  simp only [xop, nchkV]
  generalize ev f x = vx
  split <;> simp [OQ_some, WV_some, OQ_none, WV_none]
def clrV (sz : Nat) (z : List Value) (v : Value) (h : AH) : Option (Value × AH) := xop (.clr sz z (.const v)) (fun _ => undef) h
theorem WX_clr {sz : Nat} {z : List Value} : WX S (.clr sz z x) f h Q = OQ (clrV sz z (ev f x) h) Q := WX_op fun _ => rfl
def idxtV (s i : Value) (h : AH) : Option (Value × AH) := xop (.idxt (.const s) (.const i)) (fun _ => undef) h
theorem WX_idxt {i : Operand} : WX S (.idxt x i) f h Q = OQ (idxtV (ev f x) (ev f i) h) Q := WX_op fun _ => rfl
theorem WX_mkz : WX S .mkz f h Q = QV (.slice none 0 2) (fun v => Q v h) := by rw [WX_op (fun _ => rfl)]; exact OQ_some
def appzV (e : TypeId) (sz bytes : Nat) (s x : Value) (h : AH) : Option (Value × AH) := match s, x with
  | .slice none 0 0, .int _ n => if 0 < n ∧ n * bytes ≤ 140737488355328 ∧ n ≤ 9223372036854775807 then some (.slice (some ⟨h.length, 0, none⟩) n.toNat sz, h.new ⟨[], e, false, false⟩) else none
  | _, _ => none
theorem appzV_nil {e : TypeId} {sz bytes : Nat} {k : IntKind} {n : Int} {h : AH} : appzV e sz bytes (.slice none 0 0) (.int k n) h = if 0 < n ∧ n * bytes ≤ 140737488355328 ∧ n ≤ 9223372036854775807 then some (.slice (some ⟨h.length, 0, none⟩) n.toNat sz, h.new ⟨[], e, false, false⟩) else none := rfl
theorem WX_appz {e : TypeId} {sz bytes : Nat} : WX S (.appz e sz bytes x y) f h Q = OQ (appzV e sz bytes (ev f x) (ev f y) h) Q := by
  rw [WX_op (fun _ => rfl)]
  rfl
theorem WX_app {e : TypeId} {sz bytes : Nat} : WX S (.app e sz bytes x y) f h Q = OQ (appV e sz bytes (ev f x) (ev f y) h) Q := by
  rw [WX_op (fun _ => rfl)]
  rfl
theorem WX_mkf {g : FuncId} {l : List Operand} : WX S (.mkf g l) f h Q = LQ (l.map (ev f)) fun c => Q (.func (.func g) #[] c.toArray) h := by
  rw [WX_op (fun _ => rfl)]; exact OQ_some
def WK (S : XS) (v : Value) (args : List Value) (h : AH) (Q : Value → AH → Prop) : Prop := match v with
  | .func (.func g) first cap => if first.toList.isEmpty = true then WF S g (args ++ cap.toList) h Q else False
  | _ => False
@[congr] theorem WK_congr {S : XS} {v v' : Value} {args args' : List Value} {h : AH} {Q : Value → AH → Prop} (e : v = v') (e' : args = args') : WK S v args h Q = WK S v' args' h Q := by rw [e, e']
theorem WK_func {S : XS} {g : FuncId} {cap : Array Value} {args : List Value} {h : AH} {Q : Value → AH → Prop} : WK S (.func (.func g) #[] cap) args h Q = WF S g (args ++ cap.toList) h Q := rfl
theorem WX_calls {fo : Operand} {args : List Operand} : WX S (.call fo args) f h Q = WK S (ev f fo) (args.map (ev f)) h Q := by
  unfold WX WK
  simp only [xrun]
  generalize ev f fo = v
  cases v
  case func g first cap =>
    cases g with
    | func g =>
      simp only
      split
      · rfl
      · simp
    | _ => simp
  all_goals simp
def fillL : List Value → List (Nat × Nat × Value) → Option (List Value)
  | z, [] => some z
  | z, (off, n, x) :: rest =>
    if (cellsL x).length = n ∧ off + n ≤ z.length then fillL (splice z off (cellsL x)) rest else none
theorem fillX_eq : ∀ (l : List (Nat × Nat × Operand)) (z : List Value), fillX f z l = fillL z (l.map fun p => (p.1, p.2.1, ev f p.2.2))
  | [], z => rfl
  | (off, n, x) :: rest, z => by
    simp only [fillX, List.map_cons, fillL, cellsL, fillX_eq rest]
    congr 1
def VQ (r : Option (List Value)) (Q : List Value → Prop) : Prop := ∃ h, r = some h ∧ Q h
@[congr] theorem VQ_congr {v v' : Option (List Value)} {Q : List Value → Prop} (e : v = v') : VQ v Q = VQ v' Q := by rw [e]
theorem VQ_none {Q : List Value → Prop} : VQ none Q = False := by simp [VQ]
theorem VQ_some {v : List Value} {Q : List Value → Prop} : VQ (some v) Q = Q v := by
  apply propext
  exact ⟨fun ⟨v', e, q⟩ => by cases e; exact q, fun q => ⟨v, rfl, q⟩⟩
theorem WX_build {z : List Value} {l : List (Nat × Nat × Operand)} : WX S (.build z l) f h Q = VQ (fillL z (l.map fun p => (p.1, p.2.1, ev f p.2.2))) fun c => c.all isOne = true ∧ Q (.agg c.toArray) h := by
  rw [WX_op (fun _ => rfl)]
  simp only [xop, fillX_eq]
  cases fillL z (l.map fun p => (p.1, p.2.1, ev f p.2.2)) with
  | none => simp [OQ_none, VQ_none]
  | some v => simp only [VQ_some, OQ_ite]
theorem WX_bslice {e : TypeId} {sz n : Nat} {z : List Value} {l : List (Nat × Nat × Operand)} : WX S (.bslice e sz n z l) f h Q =
    VQ (fillL (zrep n z) (l.map fun p => (p.1, p.2.1, ev f p.2.2))) fun c => c.all isOne = true ∧ Q (.slice (some ⟨h.length, 0, none⟩) n sz) (h.new ⟨c, e, false, true⟩) := by
  rw [WX_op (fun _ => rfl)]
  simp only [xop, fillX_eq]
  cases fillL (zrep n z) (l.map fun p => (p.1, p.2.1, ev f p.2.2)) with
  | none => simp [OQ_none, VQ_none]
  | some v => simp only [VQ_some, OQ_ite]
end
theorem app_own {e : TypeId} {bytes : Nat} {h : AH} {k n n' : Nat} {c : List Value} {v : Value} {full : Bool} (hk : h.get k = some ⟨c, e, false, full⟩) (hc : c.length = n) (hn : h.rdn n' 0 1 = some [v])
    (hs : (n + 1 : Int) * bytes ≤ 140737488355328 ∧ (n + 1 : Int) ≤ 9223372036854775807) :
    appV e 1 bytes (.slice (some ⟨k, 0, none⟩) n 1) (.slice (some ⟨n', 0, none⟩) 1 1) h = some (.slice (some ⟨h.length, 0, none⟩) (n + 1) 1, (h.kill k).new ⟨c ++ [v], e, false, false⟩) := by
  simp only [appV, xop, ev, if_true, Nat.mul_one, hn, hk]
  rw [if_pos (by simpa using hs)]
  simp [hc]
theorem app_nil {e : TypeId} {bytes : Nat} {h : AH} {n' t : Nat} {v : Value} (ht : t = 0 ∨ t = 2) (hn : h.rdn n' 0 1 = some [v])
    (hs : (1 : Int) * bytes ≤ 140737488355328) :
    appV e 1 bytes (.slice none 0 t) (.slice (some ⟨n', 0, none⟩) 1 1) h = some (.slice (some ⟨h.length, 0, none⟩) 1 1, h.new ⟨[v], e, false, false⟩) := by
  simp only [appV, xop, ev, if_true, Nat.mul_one, hn]
  rw [if_pos (by simpa using hs)]
  simp [ht]
section
variable {k k' : IntKind} {a b : Int}
theorem bin_add : xbin .add (.int k a) (.int k b) = some (.int k (k.wrap (a + b))) := by simp [xbin]
theorem bin_sub : xbin .sub (.int k a) (.int k b) = some (.int k (k.wrap (a - b))) := by simp [xbin]
theorem bin_mul : xbin .mul (.int k a) (.int k b) = some (.int k (k.wrap (a * b))) := by simp [xbin]
theorem bin_quo (hb : b ≠ 0) : xbin .quo (.int k a) (.int k b) = some (.int k (k.wrap (a.tdiv b))) := by simp [xbin, hb]
theorem bin_rem (hb : b ≠ 0) : xbin .rem (.int k a) (.int k b) = some (.int k (a.tmod b)) := by simp [xbin, hb]
theorem bin_eql : xbin .eql (.int k a) (.int k b) = some (.bool (decide (a = b))) := by simp [xbin]; rfl
theorem bin_neq : xbin .neq (.int k a) (.int k b) = some (.bool (decide (a ≠ b))) := by simp [xbin]; rfl
theorem bin_lss : xbin .lss (.int k a) (.int k b) = some (.bool (decide (a < b))) := by simp [xbin]
theorem bin_leq : xbin .leq (.int k a) (.int k b) = some (.bool (decide (a ≤ b))) := by simp [xbin]
theorem bin_gtr : xbin .gtr (.int k a) (.int k b) = some (.bool (decide (b < a))) := by simp [xbin]
theorem bin_geq : xbin .geq (.int k a) (.int k b) = some (.bool (decide (b ≤ a))) := by simp [xbin]
theorem un_not {b : Bool} : xun .not (.bool b) = some (.bool !b) := rfl
theorem un_minus : xun .neg (.int k a) = some (.int k (k.wrap (0 - a))) := rfl
theorem wrap64_in (h1 : -9223372036854775808 ≤ a) (h2 : a ≤ 9223372036854775807) : IntKind.i64.wrap a = a := IntWalk.i64_in a ⟨h1, h2⟩
end
section
variable {h h' h0 : AH} {b b' : Blk} {n m : Nat}
theorem rd1_eq {off : Nat} : h.rd1 n off = (h.get n).bind fun b => b.c[off]? := rfl
theorem rdn_eq {off k : Nat} : h.rdn n off k = (h.get n).bind fun b => if off + k ≤ b.c.length then some ((b.c.drop off).take k) else none := rfl
theorem rd1_of {off : Nat} (hb : h.get n = some b) : h.rd1 n off = b.c[off]? := by rw [rd1_eq, hb]; rfl
theorem rdn_of {off k : Nat} (hb : h.get n = some b) : h.rdn n off k = if off + k ≤ b.c.length then some ((b.c.drop off).take k) else none := by rw [rdn_eq, hb]; rfl
theorem len_new : (h.new b).length = h.length + 1 := by simp [AH.new]
theorem get_new_same : (h.new b).get h.length = some b := by simp [AH.new, AH.get]
theorem get_new_eq (e : n = h.length) : (h.new b).get n = some b := by subst e; exact get_new_same
theorem get_new_lt (e : n < h.length) : (h.new b).get n = h.get n := by
  simp [AH.new, AH.get, List.getElem?_append_left e]
theorem rd1_new_same {off : Nat} : (h.new b).rd1 h.length off = b.c[off]? := rd1_of get_new_same
theorem rdn_new_same {off k : Nat} : (h.new b).rdn h.length off k = if off + k ≤ b.c.length then some ((b.c.drop off).take k) else none := rdn_of get_new_same
theorem drop_zero_v {l : List Value} : l.drop 0 = l := rfl
theorem drop_cons_v {a : Value} {l : List Value} {n : Nat} : (a :: l).drop n = if n = 0 then a :: l else l.drop (n - 1) := by cases n <;> rfl
theorem take_zero_v {l : List Value} : l.take 0 = [] := rfl
theorem take_nil_v : ([] : List Value).take n = [] := by cases n <;> rfl
theorem take_cons_v {a : Value} {l : List Value} {n : Nat} : (a :: l).take n = if n = 0 then [] else a :: l.take (n - 1) := by cases n <;> rfl
theorem app_nil_v {l : List Value} : [] ++ l = l := rfl
theorem app_cons_v {a : Value} {l m : List Value} : (a :: l) ++ m = a :: (l ++ m) := rfl
theorem splice_cons {a : Value} {l vs : List Value} {off : Nat} : splice (a :: l) off vs = if off = 0 then vs ++ (a :: l).drop vs.length else a :: splice l (off - 1) vs := by
  cases off with
  | zero => simp [splice]
  | succ n =>
    rw [if_neg (by omega)]
    show (a :: l).take (n + 1) ++ vs ++ (a :: l).drop (n + 1 + vs.length) = a :: (l.take n ++ vs ++ l.drop (n + vs.length))
    rw [show n + 1 + vs.length = (n + vs.length) + 1 by omega, List.drop_succ_cons, List.take_succ_cons]
    rfl
theorem splice_eq {c vs : List Value} {off : Nat} : splice c off vs = c.take off ++ vs ++ c.drop (off + vs.length) := rfl
def AH.put (h : AH) (n : Nat) (b : Blk) : AH := h.set n (some b)
theorem len_put : (h.put n b).length = h.length := by simp [AH.put]
theorem len_kill : (h.kill n).length = h.length := by simp [AH.kill]
theorem get_put_same (e : n < h.length) : (h.put n b).get n = some b := by
  simp [AH.put, AH.get, List.getElem?_set_self e]
theorem get_put_ne (e : n ≠ m) : (h.put n b).get m = h.get m := by
  simp [AH.put, AH.get, List.getElem?_set_ne e]
theorem get_kill_ne (e : n ≠ m) : (h.kill n).get m = h.get m := by
  simp [AH.kill, AH.get, List.getElem?_set_ne e]
theorem pre_new (p : h0 <+: h) : h0 <+: h.new b := p.trans (List.prefix_append _ _)
theorem pre_put (p : h0 <+: h) (e : h0.length ≤ n) : h0 <+: h.put n b := by
  obtain ⟨t, rfl⟩ := p
  refine ⟨t.set (n - h0.length) (some b), ?_⟩
  unfold AH.put
  rw [List.set_append_right _ _ e]
theorem pre_kill (p : h0 <+: h) (e : h0.length ≤ n) : h0 <+: h.kill n := by
  obtain ⟨t, rfl⟩ := p
  refine ⟨t.set (n - h0.length) none, ?_⟩
  unfold AH.kill
  rw [List.set_append_right _ _ e]
theorem pre_get (p : h <+: h') (e : h.get n = some b) : h'.get n = some b := by
  obtain ⟨t, rfl⟩ := p
  have hn := get_lt e
  unfold AH.get at e ⊢
  rw [List.getElem?_append_left hn]
  exact e
theorem pre_len (p : h <+: h') : h.length ≤ h'.length := p.length_le
theorem wr_eq {off : Nat} {vs : List Value} (e : h.get n = some b) (h1 : b.ro = false) (h2 : off + vs.length ≤ b.c.length) :
    h.wr n off vs = some (h.put n { b with c := splice b.c off vs }) := by
  unfold AH.wr AH.put
  rw [e]
  simp [h1, h2]
theorem get_new_any (hb : h.get n = some b') : (h.new b).get n = some b' := pre_get (pre_new (List.prefix_refl _)) hb
theorem rd1_new_lt {off : Nat} (e : n < h.length) : (h.new b).rd1 n off = h.rd1 n off := by rw [rd1_eq, rd1_eq, get_new_lt e]
theorem rdn_new_lt {off k : Nat} (e : n < h.length) : (h.new b).rdn n off k = h.rdn n off k := by rw [rdn_eq, rdn_eq, get_new_lt e]
theorem wr_new_same {off : Nat} {vs : List Value} : (h.new b).wr h.length off vs = if b.ro = false ∧ off + vs.length ≤ b.c.length then some (h.new { b with c := splice b.c off vs }) else none := by
  unfold AH.wr
  rw [get_new_same]
  simp only [Option.bind_some]
  split
  · simp [AH.new]
  · rfl
theorem wr_new_lt {off : Nat} {vs : List Value} (e : n < h.length) : (h.new b).wr n off vs = (h.wr n off vs).map (·.new b) := by
  unfold AH.wr
  rw [get_new_lt e]
  cases h.get n with
  | none => rfl
  | some b1 =>
    simp only [Option.bind_some]
    split
    · simp [AH.new, List.set_append_left _ _ e]
    · rfl
theorem wr_of {off : Nat} {vs : List Value} (e : h.get n = some b) : h.wr n off vs = if b.ro = false ∧ off + vs.length ≤ b.c.length then some (h.put n { b with c := splice b.c off vs }) else none := by
  unfold AH.wr
  rw [e]
  rfl
theorem rd1_put_same {off : Nat} (e : n < h.length) : (h.put n b).rd1 n off = b.c[off]? := rd1_of (get_put_same e)
theorem rdn_put_same {off k : Nat} (e : n < h.length) : (h.put n b).rdn n off k = if off + k ≤ b.c.length then some ((b.c.drop off).take k) else none := rdn_of (get_put_same e)
theorem rd1_put_ne {off : Nat} (e : n ≠ m) : (h.put n b).rd1 m off = h.rd1 m off := by rw [rd1_eq, rd1_eq, get_put_ne e]
theorem rdn_put_ne {off k : Nat} (e : n ≠ m) : (h.put n b).rdn m off k = h.rdn m off k := by rw [rdn_eq, rdn_eq, get_put_ne e]
theorem wr_put_same {off : Nat} {vs : List Value} (e : n < h.length) : (h.put n b).wr n off vs = if b.ro = false ∧ off + vs.length ≤ b.c.length then some (h.put n { b with c := splice b.c off vs }) else none := by
  rw [wr_of (get_put_same e)]
  simp [AH.put]
theorem wr_put_ne {off : Nat} {vs : List Value} (e : n ≠ m) : (h.put n b).wr m off vs = (h.wr m off vs).map (·.put n b) := by
  unfold AH.wr
  rw [get_put_ne e]
  cases h.get m with
  | none => rfl
  | some b1 =>
    simp only [Option.bind_some]
    split
    · simp [AH.put, List.set_comm _ _ e]
    · rfl
theorem HQ_ite {c : Prop} [Decidable c] {v : AH} {Q : AH → Prop} : HQ (if c then some v else none) Q = (c ∧ Q v) := by
  apply propext
  split
  · rename_i hc
    rw [HQ_some]
    exact ⟨fun q => ⟨hc, q⟩, fun q => q.2⟩
  · rename_i hc
    exact ⟨fun ⟨_, e, _⟩ => (by cases e), fun q => (hc q.1).elim⟩
theorem map_ite_v {α β : Type} {c : Prop} [Decidable c] {g : α → β} {a : α} : (if c then some a else none).map g = if c then some (g a) else none := by split <;> rfl
theorem app_len {l m : List Value} : (l ++ m).length = l.length + m.length := List.length_append
end
def nth (l : List Int) (j : Int) : Int := l.getD j.toNat 0
abbrev I64 (n : Int) : Value := .int .i64 n
def Ints (h : AH) (v : Value) (ns : List Int) : Prop :=
  (ns = [] ∧ ∃ t, t ≤ 2 ∧ v = .slice none 0 t) ∨
  ∃ b off blk, v = .slice (some ⟨b, off, none⟩) ns.length 1 ∧ h.get b = some blk ∧ off + ns.length ≤ blk.c.length ∧ ∀ i, i < ns.length → blk.c[off + i]? = some (.int .i64 (ns.getD i 0))
def pAt (v : Value) (sz : Nat) (j : Int) : Addr := match v with
  | .slice (some a) _ _ => ⟨a.block, a.off + j.toNat * sz, none⟩
  | _ => ⟨0, 0, none⟩
section
variable {h h' : AH} {v : Value} {ns : List Int}
theorem Ints.pre (p : h <+: h') (hv : Ints h v ns) : Ints h' v ns := by
  rcases hv with hv | ⟨b, off, blk, h1, h2, h3, h4⟩
  · exact .inl hv
  · exact .inr ⟨b, off, blk, h1, pre_get p h2, h3, h4⟩
theorem Ints.len (hv : Ints h v ns) : lenV v = some (.int .i64 ns.length) := by
  rcases hv with ⟨rfl, t, _, rfl⟩ | ⟨b, off, blk, rfl, h2, h3, h4⟩ <;> rfl
theorem Ints.one (hv : Ints h v ns) : isOne v = true := by
  rcases hv with ⟨rfl, t, _, rfl⟩ | ⟨b, off, blk, rfl, h2, h3, h4⟩ <;> rfl
theorem Ints.cells (hv : Ints h v ns) : cellsL v = [v] := by
  rcases hv with ⟨rfl, t, _, rfl⟩ | ⟨b, off, blk, rfl, h2, h3, h4⟩ <;> rfl
theorem Ints.ix (hv : Ints h v ns) {k : IntKind} {j : Int} (h0 : 0 ≤ j) (h1 : j < ns.length) : ixsV 1 v (.int k j) = some (.pointer (some (pAt v 1 j))) := by
  rcases hv with ⟨rfl, t, _, rfl⟩ | ⟨b, off, blk, rfl, h2, h3, h4⟩
  · simp at h1; omega
  · simp [ixsV, h0, h1, pAt]
theorem Ints.rd (hv : Ints h v ns) {j : Int} (h0 : 0 ≤ j) (h1 : j < ns.length) : h.rd1 (pAt v 1 j).block (pAt v 1 j).off = some (.int .i64 (nth ns j)) := by
  rcases hv with ⟨rfl, t, _, rfl⟩ | ⟨b, off, blk, rfl, h2, h3, h4⟩
  · simp at h1; omega
  · have := h4 j.toNat (by omega)
    simp [AH.rd1, pAt, h2, this, nth]
theorem zrep_ints : ∀ n, zrep n [.int .i64 0] = (List.replicate n (0 : Int)).map (.int .i64)
  | 0 => rfl
  | n + 1 => by simp [zrep, zrep_ints n, List.replicate_succ]
theorem Ints.own {n : Nat} {blk : Blk} (hb : h.get n = some blk) (hc : blk.c = ns.map (.int .i64)) : Ints h (.slice (some ⟨n, 0, none⟩) ns.length 1) ns := by
  refine .inr ⟨n, 0, blk, rfl, hb, by rw [hc]; simp, fun i hi => ?_⟩
  rw [hc]
  simp [List.getElem?_map, List.getD_eq_getElem?_getD, List.getElem?_eq_getElem hi]
end
section
variable {S : XS} {f : Fr} {h : AH} {Q : XE → Fr → AH → Prop} {R : Value → AH → Prop} {b : IR} {rs : List XRes} {id id' n : Nat} {I : Nat → Fr → AH → Prop}
theorem SeqQ_n : SeqQ S b Q .normal f h = WC S b f h Q := rfl
theorem SeqQ_e : SeqQ S b Q (.exit id) f h = Q (.exit id) f h := rfl
theorem SeqQ_r : SeqQ S b Q .ret f h = Q .ret f h := rfl
theorem BlkQ_n : BlkQ id Q .normal f h = Q .normal f h := rfl
theorem BlkQ_e : BlkQ id Q (.exit id') f h = if id' = id then Q .normal f h else Q (.exit id') f h := rfl
theorem BlkQ_r : BlkQ id Q .ret f h = Q .ret f h := rfl
theorem RegQ_eq : RegQ Q f h = Q .normal f h := rfl
theorem InvQ_n : InvQ I n Q .normal f h = ∃ m, m < n ∧ I m f h := rfl
theorem InvQ_go (m : Nat) (hm : m < n) (hI : I m f h) : InvQ I n Q .normal f h := ⟨m, hm, hI⟩
theorem InvQ_e : InvQ I n Q (.exit id) f h = Q (.exit id) f h := rfl
theorem InvQ_r : InvQ I n Q .ret f h = Q .ret f h := rfl
theorem LoopQ_n : LoopQ S b Q .normal f h = WC S (.loop b) f h Q := rfl
theorem LoopQ_e : LoopQ S b Q (.exit id) f h = Q (.exit id) f h := rfl
theorem LoopQ_r : LoopQ S b Q .ret f h = Q .ret f h := rfl
theorem RetQ_n : RetQ rs R .normal f h = OQ ((xres f h rs).map (·, h)) R := rfl
theorem RetQ_r : RetQ rs R .ret f h = OQ ((xres f h rs).map (·, h)) R := rfl
theorem xres_tmp {t : Nat} : xres f h [.tmp t] = some (f t) := rfl
theorem xres_tmp2 {t u : Nat} : xres f h [.tmp t, .tmp u] = some (.tuple #[f t, f u]) := rfl
theorem xres_cell {t : Nat} : xres f h [.cell1 t] = xres1 f h (.cell1 t) := by
  unfold xres xresl xresl
  cases xres1 f h (.cell1 t) <;> rfl
theorem xres_cells {t n : Nat} : xres f h [.celln t n] = xres1 f h (.celln t n) := by
  unfold xres xresl xresl
  cases xres1 f h (.celln t n) <;> rfl
def tup2 (a b : Option Value) : Option Value := match a, b with
  | some a, some b => some (.tuple #[a, b])
  | _, _ => none
theorem tup2_some {a b : Value} : tup2 (some a) (some b) = some (.tuple #[a, b]) := rfl
theorem xres_2 {r r' : XRes} : xres f h [r, r'] = tup2 (xres1 f h r) (xres1 f h r') := by
  unfold xres xresl xresl xresl
  cases xres1 f h r <;> cases xres1 f h r' <;> rfl
def rd1V (v : Value) (h : AH) : Option Value := match v with
  | .pointer (some p) => h.rd1 p.block p.off
  | _ => none
def rdnV (v : Value) (h : AH) (n : Nat) : Option Value := match v with
  | .pointer (some p) => (h.rdn p.block p.off n).map fun c => .agg c.toArray
  | _ => none
theorem rd1V_ptr {p : Addr} : rd1V (.pointer (some p)) h = h.rd1 p.block p.off := rfl
theorem rdnV_ptr {p : Addr} : rdnV (.pointer (some p)) h n = (h.rdn p.block p.off n).map fun c => .agg c.toArray := rfl
theorem xres1_tmp {t : Nat} : xres1 f h (.tmp t) = some (f t) := rfl
theorem xres1_cell {t : Nat} : xres1 f h (.cell1 t) = rd1V (f t) h := by
  simp only [xres1, rd1V]
  generalize f t = v
  cases v <;> try rfl
  rename_i a
  cases a <;> rfl
theorem xres1_cells {t : Nat} : xres1 f h (.celln t n) = rdnV (f t) h n := by
  simp only [xres1, rdnV]
  generalize f t = v
  cases v <;> try rfl
  rename_i a
  cases a <;> rfl
theorem args_nil {j : Nat} : (([] : List Value).getD j undef) = undef := rfl
theorem args_cons {a : Value} {l : List Value} {j : Nat} : (a :: l).getD j undef = if j = 0 then a else l.getD (j - 1) undef := by
  cases j <;> rfl
theorem map_some_v {α β : Type} {g : α → β} {a : α} : (some a).map g = some (g a) := rfl
theorem bind_some_v {α β : Type} {g : α → Option β} {a : α} : (some a).bind g = g a := rfl
theorem map_cons_v {α β : Type} {g : α → β} {a : α} {l : List α} : (a :: l).map g = g a :: l.map g := rfl
theorem map_nil_v {α β : Type} {g : α → β} : ([] : List α).map g = [] := rfl
theorem lit_nil {α : Type} {j : Nat} : ([] : List α)[j]? = none := rfl
theorem lit_cons {α : Type} {a : α} {l : List α} {j : Nat} : (a :: l)[j]? = if j = 0 then some a else l[j - 1]? := by
  cases j <;> rfl
theorem toL {α : Type} {l : List α} : l.toArray.toList = l := rfl
theorem all_cons_v {a : Value} {l : List Value} : (a :: l).all isOne = (isOne a && l.all isOne) := rfl
theorem all_nil_v : ([] : List Value).all isOne = true := rfl
theorem one_int {k : IntKind} {n : Int} : isOne (.int k n) = true := rfl
theorem one_bool {n : Bool} : isOne (.bool n) = true := rfl
theorem one_slice {a : Option Addr} {n c : Nat} : isOne (.slice a n c) = true := rfl
theorem one_func {g : Fn} {a b : Array Value} : isOne (.func g a b) = true := rfl
theorem one_ptr {a : Option Addr} : isOne (.pointer a) = true := rfl
theorem len_cons_v {a : Value} {l : List Value} : (a :: l).length = l.length + 1 := rfl
theorem len_nil_v : ([] : List Value).length = 0 := rfl
end
def xpre := And.intro @WC_skip (And.intro @WC_exit (And.intro @WC_ret (And.intro @WC_reg (And.intro @WC_seq (And.intro @WC_cond (And.intro @WC_blk (And.intro @WO_free (And.intro @WO_calm (And.intro @WO_sload1 (And.intro @WO_sloadn (And.intro @WO_sstore (And.intro @WO_scall (And.intro @WO_guard (And.intro @WX_mv (And.intro @WX_pick (And.intro @WX_alloc (And.intro @WX_box (And.intro @WX_boxn (And.intro @WX_load1 (And.intro @WX_loadn (And.intro @WX_store (And.intro @WX_bin (And.intro @WX_un (And.intro @WX_conv (And.intro @WX_fadr (And.intro @WX_fld1 (And.intro @WX_ext (And.intro @WX_len (And.intro @WX_cap (And.intro @WX_ixs (And.intro @WX_eqb (And.intro @WX_eqa (And.intro @WX_mks (And.intro @WX_app (And.intro @WX_appz (And.intro @WX_mkz (And.intro @WX_nchk (And.intro @WX_clr (And.intro @WX_idxt (And.intro @WX_mkf (And.intro @WX_build (And.intro @WX_bslice (And.intro @WX_callf (And.intro @WX_calls (And.intro @ev_tmp (And.intro @ev_const (And.intro @ev_func (And.intro @updo_some (And.intro @updo_none (And.intro @upd_apply (And.intro @SeqQ_n (And.intro @SeqQ_e (And.intro @SeqQ_r (And.intro @BlkQ_n (And.intro @BlkQ_e (And.intro @BlkQ_r (And.intro @RegQ_eq (And.intro @RetQ_n (And.intro @RetQ_r (And.intro @InvQ_e (And.intro @InvQ_r (And.intro @LoopQ_e (@LoopQ_r)))))))))))))))))))))))))))))))))))))))))))))))))))))))))))))))
def xpost := And.intro @AP_nil (And.intro @AP_cons (And.intro @KpV_ptr (And.intro @nchkV_p (And.intro @capV_nil (And.intro @WO_nil (And.intro @WG_tt (And.intro @WG_ff (And.intro @WG_tf (And.intro @WG_ft (And.intro @QV_eq (And.intro @WV_some (And.intro @OQ_some (And.intro @WK_func (And.intro @HQ_some (And.intro @PQ_ptr (And.intro @LQ_eq (And.intro @VQ_some (And.intro @IfW_t (And.intro @IfW_f (And.intro @pickV_t (And.intro @pickV_f (And.intro @bin_add (And.intro @bin_sub (And.intro @bin_mul (And.intro @bin_eql (And.intro @bin_neq (And.intro @bin_lss (And.intro @bin_leq (And.intro @bin_gtr (And.intro @bin_geq (And.intro @un_not (And.intro @un_minus (And.intro @lenV_slice (And.intro @convV_int (And.intro @fstV_agg (And.intro @extV_tuple (And.intro @eqa3 (And.intro @eqbV_b (And.intro @cellsL_agg (And.intro @cellsL_int (And.intro @cellsL_bool (And.intro @cellsL_slice (And.intro @cellsL_ptr (And.intro @cellsL_func (And.intro @mksV_int (And.intro @OQ_ite (And.intro @WV_ite (And.intro @rd1_new_same (And.intro @rdn_new_same (And.intro @rd1_new_lt (And.intro @rdn_new_lt (And.intro @get_new_lt (And.intro @wr_new_same (And.intro @wr_new_lt (And.intro @HQ_ite (And.intro @map_ite_v (And.intro @splice_cons (And.intro @rd1_put_same (And.intro @rdn_put_same (And.intro @rd1_put_ne (And.intro @rdn_put_ne (And.intro @wr_put_same (And.intro @wr_put_ne (And.intro @xres_tmp (And.intro @xres_tmp2 (And.intro @xres_cell (And.intro @xres_cells (And.intro @xres_2 (And.intro @tup2_some (And.intro @rd1V_ptr (And.intro @rdnV_ptr (And.intro @xres1_tmp (And.intro @xres1_cell (And.intro @xres1_cells (And.intro @args_nil (And.intro @args_cons (And.intro @map_some_v (And.intro @bind_some_v (And.intro @map_cons_v (And.intro @map_nil_v (And.intro @lit_nil (And.intro @lit_cons (And.intro @toL (And.intro @all_cons_v (And.intro @all_nil_v (And.intro @one_int (And.intro @one_bool (And.intro @one_slice (And.intro @one_func (And.intro @one_ptr (And.intro @len_cons_v (And.intro @len_nil_v (And.intro @drop_zero_v (And.intro @drop_cons_v (And.intro @take_zero_v (And.intro @take_nil_v (And.intro @take_cons_v (And.intro @app_nil_v (And.intro @app_cons_v (And.intro @get_new_same (And.intro @Bool.and_true (And.intro @Bool.true_and (And.intro @Bool.not_true (And.intro @Bool.not_false (And.intro @true_and (And.intro @and_true (And.intro @and_self (And.intro @decide_true (@decide_false)))))))))))))))))))))))))))))))))))))))))))))))))))))))))))))))))))))))))))))))))))))))))))))))))))))))))))))
end Go.Proofs.Ytapafdpnmakekaa.X
