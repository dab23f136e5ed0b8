/- The rank of the reference: the walk. -/
import Derived.Test.YtnjhhgfpclngcaaXF22
set_option linter.unusedVariables false
set_option linter.unusedSimpArgs false
set_option maxRecDepth 20000
set_option maxHeartbeats 4000000
namespace Go.Proofs.Ytnjhhgfpclngcaa.X
open Go Go.RowKit

theorem s_l05Rank {v : Value} {rows : List (List Int)} {p : Int} {W : Nat} {h : AH} {Q : Value → AH → Prop} (hv : Rows h v rows) (hp : isP p = true) (hN : 1 ≤ rows.length ∧ rows.length ≤ 1048576) (gd : Good p rows W) (hW : W ≤ 1048576)
    (hQ : ∀ h', h <+: h' → Q (I64 (rankN p rows)) h') : WF S 85 [I64 p, v] h Q := by
  refine WF_fn (fn := c85) rfl rfl ?_
  unfold c85
  have hp5 := isP_in hp
  obtain ⟨cs, hvv, hcl, hr⟩ := hv
  obtain ⟨n, off, rfl, hrd⟩ := hvv.rdn (by omega)
  try simp (maxSteps := 3000000) (disch := first | omega | (simp only [len_new, len_put, len_kill]; omega)) only [↓xpre, xpost, ↓reduceIte, Nat.reduceEqDiff, Nat.reduceAdd, Nat.reduceSub, Nat.reduceLeDiff, Nat.zero_add, Nat.sub_zero, fillL, zrep]
  rw [app_zero get_new_same (show AH.rdn (AH.new h _) n off cs.length = some cs by rw [rdn_eq] at hrd ⊢; obtain ⟨b, hb, hc⟩ := Option.bind_eq_some_iff.1 hrd; rw [get_new_any hb]; exact hc) (by omega) (by omega)]
  try simp (maxSteps := 3000000) (disch := first | omega | (simp only [len_new, len_put, len_kill]; omega)) only [↓xpre, xpost, ↓reduceIte, Nat.reduceEqDiff, Nat.reduceAdd, Nat.reduceSub, Nat.reduceLeDiff, Nat.zero_add, Nat.sub_zero, len_new, hcl]
  generalize hH : AH.new (AH.kill _ _) _ = H
  have st0 : RankS h H (h.length + 1) cs rows := by
    refine ⟨?_, by omega, ?_, hcl, fun i hi => ⟨(hr i hi).pre ?_, fun e => ?_⟩⟩
    · rw [← hH]; exact pre_new (pre_kill (pre_new (List.prefix_refl _)) (Nat.le_refl _))
    · rw [← hH]; exact ownB_new'' (by rw [len_kill, len_new])
    · rw [← hH]; exact pre_new (pre_kill (pre_new (List.prefix_refl _)) (Nat.le_refl _))
    · have := (hr i hi).lt _ e
      omega
  have hrk : elim p rows 0 0 (W - 0) = rankN p rows := by
    unfold rankN
    rw [(gd 0 (by omega)).1]
    rfl
  refine WC_loop_inv (fun m f h1 => ∃ (c r : Nat) (cs : List Value) (T : List (List Int)), m = W - c ∧ c ≤ W ∧ f 0 = I64 p ∧ f 5 = .slice (some ⟨h.length + 1, 0, none⟩) rows.length 1 ∧ f 6 = I64 r ∧ f 7 = I64 c ∧ r ≤ rows.length ∧ T.length = rows.length ∧ Good p T W ∧
    RankS h h1 (h.length + 1) cs T ∧ elim p T r c (W - c) = rankN p rows) ?_ (W - 0) _ _ ⟨0, 0, cs, rows, rfl, Nat.zero_le _, rfl, rfl, rfl, rfl, Nat.zero_le _, rfl, gd, st0, hrk⟩
  clear st0 hrk hr hrd hvv hcl
  rintro m f h1 ⟨c, r, cs, T, rfl, hc, f0, f5, f6, f7, hrN, hTN, g, st, hel⟩
  have hv1 := st.vals
  rw [hTN] at hv1
  have hcl := st.len
  have hix0 := hv1.ix (k := .i64) (j := 0) (by omega) (by omega)
  have hrd0 := hv1.rd (j := 0) (by omega) (by omega)
  have r0 := (st.rows 0 (by omega)).1.len
  rw [(g 0 (by omega)).1] at r0
  try simp (maxSteps := 3000000) (disch := first | omega | (simp only [len_new, len_put, len_kill]; omega)) only [↓xpre, xpost, ↓reduceIte, Nat.reduceEqDiff, Nat.reduceAdd, Nat.reduceSub, Nat.reduceLeDiff, Nat.zero_add, Nat.sub_zero, f0, f5, f6, f7, decide_eq_true (show (0 : Int) < (rows.length : Int) by omega), hix0, hrd0, Int.toNat_zero, r0, IfW_dec]
  refine ⟨fun hlt => ?_, fun hge => ?_⟩
  · refine WC_loop_inv (fun m f h2 => ∃ b : Nat, m = rows.length - b ∧ r ≤ b ∧ b ≤ rows.length ∧ f 0 = I64 p ∧ f 5 = .slice (some ⟨h.length + 1, 0, none⟩) rows.length 1 ∧ f 6 = I64 r ∧ f 7 = I64 c ∧ f 8 = I64 b ∧ h2 = h1 ∧
      pivot T c (rows.length - b) b = pivot T c (rows.length - r) r) ?_ (rows.length - r) _ _ ⟨r, rfl, Nat.le_refl _, hrN, f0, f5, f6, f7, rfl, rfl, rfl⟩
    clear f0 f5 f6 f7
    rintro m f h2 ⟨b, rfl, hrb, hb, f0, f5, f6, f7, f8, rfl, hpv⟩
    by_cases hbN : b < rows.length
    · have hixb := hv1.ix (k := .i64) (j := b) (by omega) (by omega)
      have hrdb := hv1.rd (j := b) (by omega) (by omega)
      have hrow := (st.rows b (by omega)).1
      have hrl := (g b (by omega)).1
      have hixc := hrow.ix (k := .i64) (j := c) (by omega) (by omega)
      have hrdc := hrow.rd (j := c) (by omega) (by omega)
      simp only [nth, Int.toNat_natCast] at hrdc
      by_cases hz : tb T b c = 0
      · have hz' : (T.getD b []).getD c 0 = 0 := hz
        try simp (maxSteps := 3000000) (disch := first | omega | (simp only [len_new, len_put, len_kill]; omega)) only [↓xpre, xpost, ↓reduceIte, Nat.reduceEqDiff, Nat.reduceAdd, Nat.reduceSub, Nat.reduceLeDiff, Nat.zero_add, Nat.sub_zero, f0, f5, f6, f7, f8, decide_eq_true (show (b : Int) < (rows.length : Int) by omega), hixb, hrdb, Int.toNat_natCast, hixc, hrdc, hz', wrap64_in]
        refine InvQ_go (rows.length - (b + 1)) (by omega) ⟨b + 1, rfl, by omega, by omega, f0, f5, f6, f7, rfl, rfl, ?_⟩
        rw [← hpv, show rows.length - b = (rows.length - (b + 1)) + 1 by omega]
        conv => rhs; unfold pivot
        rw [if_pos hz]
      · have hz' : ¬ (T.getD b []).getD c 0 = 0 := hz
        have hpb : pivot T c (rows.length - r) r = b := by
          rw [← hpv, show rows.length - b = (rows.length - (b + 1)) + 1 by omega]
          unfold pivot
          rw [if_neg hz]
        try simp (maxSteps := 3000000) (disch := first | omega | (simp only [len_new, len_put, len_kill]; omega)) only [↓xpre, xpost, ↓reduceIte, Nat.reduceEqDiff, Nat.reduceAdd, Nat.reduceSub, Nat.reduceLeDiff, Nat.zero_add, Nat.sub_zero, f0, f5, f6, f7, f8, decide_eq_true (show (b : Int) < (rows.length : Int) by omega), hixb, hrdb, Int.toNat_natCast, hixc, hrdc, decide_eq_false hz', decide_eq_false (show ¬ ((b : Int) = (rows.length : Int)) by omega)]
        have hpAt : ∀ j : Int, pAt (.slice (some ⟨h.length + 1, 0, none⟩) rows.length 1) 1 j = ⟨h.length + 1, 0 + j.toNat * 1, none⟩ := fun _ => rfl
        have hixr := hv1.ix (k := .i64) (j := r) (by omega) (by omega)
        have hrdr := hv1.rd (j := r) (by omega) (by omega)
        have rowr := st.rows r (by omega)
        have rowb := st.rows b (by omega)
        obtain ⟨e, hg⟩ := st.g
        have st1 := st.put (i := b) (T' := T.set b (T.getD r [])) (e := e) (by omega) rfl rowr.1 rowr.2
        have own1 := rowb.1.put_ne (b := ⟨cs.set b (cs.getD r undef), e, false, false⟩) rowb.2
        have st2 := st1.put (i := r) (T' := swapped T r b) (e := e) (by simp; omega) rfl own1 rowb.2
        have own2 := own1.put_ne (b := ⟨(cs.set b (cs.getD r undef)).set r (cs.getD b undef), e, false, false⟩) rowb.2
        have lt2 := st.lt
        simp only [hpAt, Int.toNat_natCast, Nat.mul_one, Nat.zero_add] at hixr hrdr
        have pp : ∀ a b : Blk, (h2.put (h.length + 1) a).put (h.length + 1) b = h2.put (h.length + 1) b := fun a b => by simp [AH.put]
        rw [pp] at st2 own2
        try simp (maxSteps := 3000000) (disch := first | omega | (simp only [len_new, len_put, len_kill]; omega)) only [↓xpre, xpost, ↓reduceIte, Nat.reduceEqDiff, Nat.reduceAdd, Nat.reduceSub, Nat.reduceLeDiff, Nat.zero_add, Nat.sub_zero, hpAt, hixr, hrdr, Int.toNat_natCast, rowr.1.one, rowr.1.cells, rowb.1.one, rowb.1.cells, wr_of hg, Nat.mul_one, splice_set, List.length_set]
        refine ⟨by omega, by omega, ?_⟩
        generalize hG : AH.put _ _ _ = G2 at st2 own2 ⊢
        have ownc := own2.rd (j := c) (by omega) (by omega)
        simp only [nth, Int.toNat_natCast] at ownc
        have gb := (g b (by omega)).2 c (by omega)
        have nz : 1 ≤ (T.getD b []).getD c 0 ∧ (T.getD b []).getD c 0 < p := by unfold tb at gb; omega
        try simp (maxSteps := 3000000) (disch := first | omega | (simp only [len_new, len_put, len_kill]; omega)) only [↓xpre, xpost, ↓reduceIte, Nat.reduceEqDiff, Nat.reduceAdd, Nat.reduceSub, Nat.reduceLeDiff, Nat.zero_add, Nat.sub_zero, ownc]
        refine s_l01Inverse hp5 nz (invN_is hp nz) ?_
        generalize hiv : invN p ((T.getD b []).getD c 0) = iv
        have ivb : 1 ≤ iv ∧ iv < p := by have := invN_is hp nz; rw [hiv] at this; exact ⟨this.1, this.2.1⟩
        have g1 := g.swapped (r := r) (i := b) (by omega) (by omega)
        have t1l : (swapped T r b).length = rows.length := by rw [swapped_len, hTN]
        have t1r : (swapped T r b).getD r [] = T.getD b [] := by rw [swapped_get (by omega) (by omega), if_pos rfl]
        have c2r : ((cs.set b (cs.getD r undef)).set r (cs.getD b undef)).getD r undef = cs.getD b undef := by rw [set_getD' (by simp; omega), if_pos rfl]
        generalize hT1 : swapped T r b = T1 at *
        generalize hcs2 : (cs.set b (cs.getD r undef)).set r (cs.getD b undef) = cs2 at *
        generalize hown : cs.getD b undef = own at *
        try simp (maxSteps := 3000000) (disch := first | omega | (simp only [len_new, len_put, len_kill]; omega)) only [↓xpre, xpost, ↓reduceIte, Nat.reduceEqDiff, Nat.reduceAdd, Nat.reduceSub, Nat.reduceLeDiff, Nat.zero_add, Nat.sub_zero, f0, f5, f6, f7, f8, wrap64_in]
        refine WC_loop_inv (fun m f h3 => ∃ (k : Nat) (cs' : List Value), m = rows.length - k ∧ (r + 1 ≤ k ∧ k ≤ rows.length) ∧ f 0 = I64 p ∧ f 5 = .slice (some ⟨h.length + 1, 0, none⟩) rows.length 1 ∧ f 6 = I64 r ∧ f 7 = I64 c ∧
          f 9 = own ∧ f 10 = I64 iv ∧ f 11 = I64 k ∧ RankS h h3 (h.length + 1) cs' (swept p T1 r c k) ∧ cs'.getD r undef = own) ?_ (rows.length - (r + 1)) _ _
          ⟨r + 1, cs2, rfl, by omega, f0, f5, f6, f7, rfl, rfl, rfl, by rw [swept_start]; exact st2, c2r⟩
        clear f0 f5 f6 f7 f8 st2 own2 ownc st1 own1 hG c2r
        rintro m f h3 ⟨k, cs', rfl, hk, f0, f5, f6, f7, f9, f10, f11, sk, ck⟩
        have hv3 := sk.vals
        rw [swept_len, t1l] at hv3
        try simp (maxSteps := 3000000) (disch := first | omega | (simp only [len_new, len_put, len_kill]; omega)) only [↓xpre, xpost, ↓reduceIte, Nat.reduceEqDiff, Nat.reduceAdd, Nat.reduceSub, Nat.reduceLeDiff, Nat.zero_add, Nat.sub_zero, f0, f5, f6, f7, f9, f10, f11, hv3.len, IfW_dec, sk.len, swept_len, t1l]
        refine ⟨fun hltk => ?_, fun hgek => ?_⟩
        · have hk' : k < rows.length := by omega
          have hixk := hv3.ix (k := .i64) (j := k) (by omega) (by rw [sk.len, swept_len, t1l]; omega)
          have hrdk := hv3.rd (j := k) (by omega) (by rw [sk.len, swept_len, t1l]; omega)
          have rowk := (sk.rows k (by rw [swept_len]; omega)).1
          rw [swept_get (by omega), if_neg (by omega)] at rowk
          have gk := g1 k (by omega)
          have hixc := rowk.ix (k := .i64) (j := c) (by omega) (by omega)
          have hrdc := rowk.rd (j := c) (by omega) (by omega)
          simp only [nth, Int.toNat_natCast] at hrdc
          have gkc := gk.2 c (by omega)
          have bm := mul_in (a := (T1.getD k []).getD c 0) (b := iv) (A := 5) (B := 5) (by unfold tb at gkc; omega) (by omega)
          generalize hsd : ((T1.getD k []).getD c 0 * iv).tmod p = sN
          have sb : 0 ≤ sN ∧ sN < p := by rw [← hsd]; exact tmod_nn bm.1 (by omega)
          try simp (maxSteps := 3000000) (disch := first | omega | (simp only [len_new, len_put, len_kill]; omega)) only [↓xpre, xpost, ↓reduceIte, Nat.reduceEqDiff, Nat.reduceAdd, Nat.reduceSub, Nat.reduceLeDiff, Nat.zero_add, Nat.sub_zero, f0, f5, f6, f7, f9, f10, f11, hixk, hrdk, Int.toNat_natCast, hixc, hrdc, wrap64_in, bin_rem, hsd, fillL, zrep]
          generalize hH5 : AH.new h3 _ = H5
          obtain ⟨hb5, p5, n5⟩ := new_facts hH5
          have ek : swept p T1 r c (k + 1) = (swept p T1 r c k).set k (rowOp p (T1.getD r []) (T1.getD k []) c) := swept_next (by omega) (by omega)
          have hivr : invN p ((T1.getD r []).getD c 0) = iv := by rw [t1r]; exact hiv
          by_cases hs0 : sN = 0
          · try simp (maxSteps := 3000000) (disch := first | omega | (simp only [len_new, len_put, len_kill]; omega)) only [↓xpre, xpost, ↓reduceIte, Nat.reduceEqDiff, Nat.reduceAdd, Nat.reduceSub, Nat.reduceLeDiff, Nat.zero_add, Nat.sub_zero, decide_eq_true hs0, f0, f5, f6, f7, f9, f10, f11, wrap64_in]
            refine InvQ_go (rows.length - (k + 1)) (by omega) ⟨k + 1, cs', rfl, by omega, f0, f5, f6, f7, f9, f10, rfl, ?_, ck⟩
            rw [ek, rowOp_zero (by rw [hivr, hsd]; exact hs0) (fun l hl => by rw [gk.1] at hl; exact gk.2 l hl)]
            have e1 : (swept p T1 r c k).set k (T1.getD k []) = swept p T1 r c k := by
              refine getD_ext (by rw [List.length_set]) fun j hj => ?_
              rw [List.length_set] at hj
              rw [set_getD' (by rw [swept_len]; omega)]
              split
              · rename_i e
                rw [e, swept_get (by omega), if_neg (by omega)]
              · rfl
            rw [e1]
            exact sk.pre p5
          · try simp (maxSteps := 3000000) (disch := first | omega | (simp only [len_new, len_put, len_kill]; omega)) only [↓xpre, xpost, ↓reduceIte, Nat.reduceEqDiff, Nat.reduceAdd, Nat.reduceSub, Nat.reduceLeDiff, Nat.zero_add, Nat.sub_zero, decide_eq_false hs0, f0, f5, f6, f7, f9, f10, f11]
            have s5 := sk.pre p5
            have blk3 := sk.blk
            have lt3 := sk.lt
            have lrow := rowk.lt
            have lown : ∀ n, blkOf own = some n → n < h3.length := fun n hn => blk3 r (by rw [swept_len]; omega) n (by rw [ck]; exact hn)
            have rown := (sk.rows r (by rw [swept_len]; omega)).1
            rw [ck, swept_get (by omega), if_neg (by omega), t1r] at rown
            have gown := g b (by omega)
            refine WC_loop_inv (fun m f h4 => ∃ (l : Nat) (sv : Value), m = W - l ∧ l ≤ W ∧ f 0 = I64 p ∧ f 5 = .slice (some ⟨h.length + 1, 0, none⟩) rows.length 1 ∧ f 6 = I64 r ∧ f 7 = I64 c ∧
              f 9 = own ∧ f 10 = I64 iv ∧ f 11 = I64 k ∧ f 12 = I64 sN ∧ f 13 = sv ∧ f 14 = I64 l ∧ Keeps h3.length h3 h4 ∧ h <+: h4 ∧
              WayF h4 h3.length sv (gen l fun x => md p ((T1.getD k []).getD x 0 - sN * (T.getD b []).getD x 0))) ?_ (W - 0) _ _
              ⟨0, .slice (some ⟨h3.length, 0, none⟩) 0 1, rfl, Nat.zero_le _, f0, f5, f6, f7, f9, f10, f11, rfl, rfl, rfl, ⟨by omega, fun n b _ hb => pre_get p5 hb⟩, sk.hp.trans p5, ⟨h3.length, true, by rw [gen_len], Nat.le_refl _, by simpa [gen] using hb5⟩⟩
            clear f0 f5 f6 f7 f9 f10 f11
            rintro m f h4 ⟨l, sv, rfl, hl, f0, f5, f6, f7, f9, f10, f11, f12, f13, f14, kp, hp4, way⟩
            have s4 := sk.keeps kp hp4 lt3 blk3
            have hv4 := s4.vals
            rw [swept_len, t1l] at hv4
            have rowk4 := rowk.keeps kp lrow
            have rown4 := rown.keeps kp lown
            have lo := rown4.len
            rw [gown.1] at lo
            try simp (maxSteps := 3000000) (disch := first | omega | (simp only [len_new, len_put, len_kill]; omega)) only [↓xpre, xpost, ↓reduceIte, Nat.reduceEqDiff, Nat.reduceAdd, Nat.reduceSub, Nat.reduceLeDiff, Nat.zero_add, Nat.sub_zero, f0, f5, f6, f7, f9, f10, f11, f12, f13, f14, lo, IfW_dec]
            refine ⟨fun hltl => ?_, fun hgel => ?_⟩
            · have hl' : l < W := by omega
              have hixk := hv4.ix (k := .i64) (j := k) (by omega) (by rw [sk.len, swept_len, t1l]; omega)
              have hrdk := hv4.rd (j := k) (by omega) (by rw [sk.len, swept_len, t1l]; omega)
              have hixl := rowk4.ix (k := .i64) (j := l) (by omega) (by omega)
              have hrdl := rowk4.rd (j := l) (by omega) (by omega)
              have hixo := rown4.ix (k := .i64) (j := l) (by omega) (by omega)
              have hrdo := rown4.rd (j := l) (by omega) (by omega)
              simp only [nth, Int.toNat_natCast] at hrdl hrdo
              have b1 := gk.2 l hl'
              have b2 := gown.2 l hl'
              unfold tb at b1 b2
              have b3 := mul_in (a := sN) (b := (T.getD b []).getD l 0) (A := 5) (B := 5) (by omega) (by omega)
              try simp (maxSteps := 3000000) (disch := first | omega | (simp only [len_new, len_put, len_kill]; omega)) only [↓xpre, xpost, ↓reduceIte, Nat.reduceEqDiff, Nat.reduceAdd, Nat.reduceSub, Nat.reduceLeDiff, Nat.zero_add, Nat.sub_zero, f0, f5, f6, f7, f9, f10, f11, f12, f13, f14, hixk, hrdk, Int.toNat_natCast, hixl, hrdl, hixo, hrdo, wrap64_in]
              refine s_l01Mod hp5 ?_
              try simp (maxSteps := 3000000) (disch := first | omega | (simp only [len_new, len_put, len_kill]; omega)) only [↓xpre, xpost, ↓reduceIte, Nat.reduceEqDiff, Nat.reduceAdd, Nat.reduceSub, Nat.reduceLeDiff, Nat.zero_add, Nat.sub_zero, f0, f5, f6, f7, f9, f10, f11, f12, f13, f14, fillL, zrep]
              refine way.app (by rw [gen_len]; omega) fun sv' h5 k5 pre5 way5 => ?_
              try simp (maxSteps := 3000000) (disch := first | omega | (simp only [len_new, len_put, len_kill]; omega)) only [↓xpre, xpost, ↓reduceIte, Nat.reduceEqDiff, Nat.reduceAdd, Nat.reduceSub, Nat.reduceLeDiff, Nat.zero_add, Nat.sub_zero, f0, f5, f6, f7, f9, f10, f11, f12, f13, f14, wrap64_in]
              refine InvQ_go (W - (l + 1)) (by omega) ⟨l + 1, sv', rfl, by omega, f0, f5, f6, f7, f9, f10, f11, f12, rfl, rfl, ⟨by have := kp.1; have := k5.1; omega, fun n b hn hb => k5.2 n b hn (kp.2 n b hn hb)⟩, pre5 h (by have := pre_len sk.hp; omega) hp4, ?_⟩
              rw [gen_succ]
              exact way5
            · have le : l = W := by omega
              subst le
              obtain ⟨kb, fu, rfl, q2, q3⟩ := way
              obtain ⟨e4, hg4⟩ := s4.g
              have hnew : Ints h4 (.slice (some ⟨kb, 0, none⟩) (gen l fun x => md p ((T1.getD k []).getD x 0 - sN * (T.getD b []).getD x 0)).length 1) _ := Ints.own q3 rfl
              have hix4 := hv4.ix (k := .i64) (j := k) (by omega) (by rw [sk.len, swept_len, t1l]; omega)
              have hpAt : ∀ j : Int, pAt (.slice (some ⟨h.length + 1, 0, none⟩) rows.length 1) 1 j = ⟨h.length + 1, 0 + j.toNat * 1, none⟩ := fun _ => rfl
              simp only [hpAt, Int.toNat_natCast, Nat.mul_one, Nat.zero_add] at hix4
              have l4 := s4.len
              rw [swept_len, t1l] at l4
              try simp (maxSteps := 3000000) (disch := first | omega | (simp only [len_new, len_put, len_kill]; omega)) only [↓xpre, xpost, ↓reduceIte, Nat.reduceEqDiff, Nat.reduceAdd, Nat.reduceSub, Nat.reduceLeDiff, Nat.zero_add, Nat.sub_zero, f0, f5, f6, f7, f9, f10, f11, f12, f13, f14, hix4, wr_of hg4, splice_set, wrap64_in]
              refine ⟨by omega, ?_⟩
              have lt4 := s4.lt
              have sp := s4.put (i := k) (x := .slice (some ⟨kb, 0, none⟩) (gen l fun x => md p ((T1.getD k []).getD x 0 - sN * (T.getD b []).getD x 0)).length 1) (T' := swept p T1 r c (k + 1)) (e := e4) (by rw [swept_len]; omega)
                (by rw [ek]; congr 1; unfold rowOp; rw [gk.1, hivr, hsd, t1r]) hnew (fun e => by
                  have e' : kb = h.length + 1 := by simpa [blkOf] using e
                  have q2' : List.length h3 ≤ kb := q2
                  have lt3' : h.length + 1 < List.length h3 := lt3
                  omega)
              refine InvQ_go (rows.length - (k + 1)) (by omega) ⟨k + 1, _, rfl, by omega, f0, f5, f6, f7, f9, f10, rfl, sp, ?_⟩
              rw [set_getD' (by omega), if_neg (by omega)]
              exact ck
        · have ke : k = rows.length := by omega
          subst ke
          try simp (maxSteps := 3000000) (disch := first | omega | (simp only [len_new, len_put, len_kill]; omega)) only [↓xpre, xpost, ↓reduceIte, Nat.reduceEqDiff, Nat.reduceAdd, Nat.reduceSub, Nat.reduceLeDiff, Nat.zero_add, Nat.sub_zero, f0, f5, f6, f7, f9, f10, f11, wrap64_in]
          refine InvQ_go (W - (c + 1)) (by omega) ⟨c + 1, r + 1, cs', _, rfl, by omega, f0, f5, rfl, rfl, by omega, by rw [swept_len, t1l], g1.swept (r := r) (c := c) (k := rows.length) (by omega), sk, ?_⟩
          rw [← hel, show W - c = (W - (c + 1)) + 1 by omega]
          conv => rhs; unfold elim
          have hcs : colStep p T r c = (swept p T1 r c rows.length, r + 1) := by
            unfold colStep
            rw [hTN, hpb, if_neg (by omega), hT1]
          rw [hcs]
    · have hbe : b = rows.length := by omega
      have hcs : colStep p T r c = (T, r) := by
        unfold colStep
        rw [hTN, ← hpv, hbe, if_pos (by simp [pivot])]
      try simp (maxSteps := 3000000) (disch := first | omega | (simp only [len_new, len_put, len_kill]; omega)) only [↓xpre, xpost, ↓reduceIte, Nat.reduceEqDiff, Nat.reduceAdd, Nat.reduceSub, Nat.reduceLeDiff, Nat.zero_add, Nat.sub_zero, f0, f5, f6, f7, f8, decide_eq_false (show ¬ ((b : Int) < (rows.length : Int)) by omega), decide_eq_true (show ((b : Int) = (rows.length : Int)) by omega), wrap64_in]
      refine InvQ_go (W - (c + 1)) (by omega) ⟨c + 1, r, cs, T, rfl, by omega, f0, f5, f6, rfl, hrN, hTN, g, st, ?_⟩
      rw [← hel, show W - c = (W - (c + 1)) + 1 by omega]
      conv => rhs; unfold elim
      rw [hcs]
  · have : c = W := by omega
    subst this
    try simp (maxSteps := 3000000) (disch := first | omega | (simp only [len_new, len_put, len_kill]; omega)) only [↓xpre, xpost, ↓reduceIte, Nat.reduceEqDiff, Nat.reduceAdd, Nat.reduceSub, Nat.reduceLeDiff, Nat.zero_add, Nat.sub_zero, f0, f5, f6, f7]
    have := hQ _ st.hp
    rw [← hel] at this
    simpa [elim] using this
end Go.Proofs.Ytnjhhgfpclngcaa.X
