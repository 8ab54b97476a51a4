/-
  KnowHides returns true, and writes nothing that was there. For every input.
-/
import Derived.Test.YtbaliaodioflfaaFixK
import Derived.Test.YtbaliaodioflfaaStores
import Derived.Test.YtbaliaodioflfaaKnowT
import Derived.Test.YtbaliaodioflfaaKnowZ
import Derived.Test.YtbaliaodioflfaaKnowN
import Derived.Test.YtbaliaodioflfaaKnowO
namespace Go.Proofs.Ytbaliaodioflfaa
open Go.RowKit

set_option maxRecDepth 100000 in
set_option maxHeartbeats 32000000 in
theorem knowHides_walk (ad : Option Addr) (len cap : Nat) (ts : List T) (ad2 : Option Addr) (len2 cap2 : Nat) (zs : List Int) (W : World) (hlen : len = ts.length) (hmax : len ≤ maxLen) (hts : TermsIn W ad ts) (hlen2 : len2 = zs.length) (hmax2 : len2 ≤ maxLen) (hzs : NumsIn .u8 W ad2 zs) :
    Calls Try.prog 11 #[.slice ad len cap, .slice ad2 len2 cap2] W fun e w' => e = .returned (.bool true) ∧ Below W.heap.size W w' := by
  have Hlen := hid hlen
  have Hts := hid hts
  have Hmax := hid hmax
  have Hlen2 := hid hlen2
  have Hzs := hid hzs
  have hm2 : len2 ≤ 9223372036854775807 := by unfold maxLen at hmax2; exact hmax2
  clear hts hlen hmax hlen2 hzs hmax2
  go_enter Try.func11, Try.ntmps11
  go_wp2_with fail
  refine (stores_calls (Hd.refl W) ad len cap ts Hlen.out Hmax.out Hts.out 30 (by decide)).mono ?_
  rintro e w1 ⟨b, b', L, rfl, hg, hl, hd⟩
  have H := hid (hd.un2)
  have hgd := hid hg
  have hl40 : L.length ≤ 30 := by omega
  clear hd hg hl
  go_wp2_with fail
  refine (len_at H.out).mono ?_
  rintro e w' ⟨rfl, rfl⟩
  by_cases hL : L.length = 0
  · have e0 : ((L.length : Int) == 0) = true := by simp [hL]
    have e1 : (L.length == 0) = true := by simp [hL]
    clear hL
    go_wp2_with fail
    refine (fixed8_calls H.out).mono ?_
    rintro e w' ⟨rfl, h5⟩
    have H5 := hid h5
    clear h5
    go_wp2_with fail
    go_ret
    exact ⟨rfl, H5.out.below⟩
  have e0 : ((L.length : Int) == 0) = false := by simpa using hL
  have e1 : (L.length == 0) = false := by simpa using hL
  have hL1 : 1 ≤ L.length := by omega
  clear hL
  go_wp2_with fail
  have H2 := hid (H.out.row_new (E := 3)).swap
  clear H e0 e1
  go_loopw [7, 8] (fun v i wr => ∃ j : Nat, j ≤ len2 ∧ j ≤ 10 ∧ i = .int .i64 j ∧ ∃ (kad : Option Addr) (kcap : Nat) (ks : List Int), v = .slice kad j kcap ∧ Hid (∀ x ∈ ks, 1 ≤ x ∧ x ≤ L.length) ∧ Hid (Hd W wr (Sto b L 1000 :: RowR 3 1 (.slice kad j kcap) j (nums .i64 ks) :: []))) (fun _ i _ => len2 - (intOf i).toNat)
  case atStart => exact ⟨0, Nat.zero_le _, Nat.zero_le _, rfl, _, _, [], rfl, hid (by simp), H2⟩
  case round =>
    clear H2
    obtain ⟨j, hj, hj10, rfl, kad, kcap, ks, rfl, KI, H⟩ := hrel
    by_cases hlt : j < len2 ∧ j < 10
    · have hd1 : decide ((j : Int) < (len2 : Int)) = true := by simp; omega
      have hd1' : decide (j < len2) = true := by simp; omega
      have hd2 : decide ((j : Int) < 10) = true := by simp; omega
      obtain ⟨z, hz⟩ : ∃ z, zs[j]? = some z := ⟨zs[j]'(by rw [← Hlen2.out]; exact hlt.1), List.getElem?_eq_getElem _⟩
      obtain ⟨z0, z1, gg, oo, rfl, hc0⟩ := (Hzs.out.later H.out.below) j z hz
      have z0' : 0 ≤ z := by simpa [IntKind.min, IntKind.signed] using z0
      have z1' : z ≤ 255 := by simpa [IntKind.max, IntKind.signed, IntKind.bits] using z1
      have zj0 : (0 : Int) ≤ (j : Int) := by omega
      have zj1 : (j : Int) < (len2 : Int) := by omega
      have Hc0 := hid hc0
      clear hz z0 z1 hc0
      go_wp2_with fail
      refine grow_region (s0 := 49) (tk := 7) (tn := 1) (ti := 8) (ts := 5) (by kernel_rfl) (by kernel_rfl) (by kernel_rfl) (by kernel_rfl) (by kernel_rfl) (by simp) (by decide) rfl rfl rfl rfl hlt.1 (by omega) Hc0.out z0' z1' hL1 (by omega) H.out ?_
      intro f g3 c3 w3 hf h3
      have H3 := hid h3
      simp only [patchG, Nat.reduceAdd, Nat.reduceLeDiff, Nat.reduceBEq, decide_true, decide_false, Bool.and_true, Bool.and_false, Bool.or_true, Bool.or_false, cond_true, cond_false, hf]
      clear h3 hf H
      generalize f 49 = f49
      generalize f 50 = f50
      generalize f 51 = f51
      generalize f 52 = f52
      generalize f 53 = f53
      generalize f 54 = f54
      generalize f 55 = f55
      generalize f 56 = f56
      generalize f 57 = f57
      generalize f 58 = f58
      generalize f 59 = f59
      generalize f 60 = f60
      clear f
      have KI3 : Hid (∀ x ∈ ks ++ [1 + z % (L.length : Int)], 1 ≤ x ∧ x ≤ L.length) := hid fun x hx => by
        rcases List.mem_append.1 hx with hx | hx
        · exact KI.out x hx
        · have h1 := Int.emod_nonneg z (show (L.length : Int) ≠ 0 by omega)
          have h2 := Int.emod_lt_of_pos z (show (0 : Int) < (L.length : Int) by omega)
          simp only [List.mem_singleton] at hx
          omega
      clear KI Hc0
      go_wp2_with fail
      go_roundw
      case rel => exact ⟨j + 1, by omega, by omega, by go_num, _, _, _, rfl, KI3, H3⟩
      case measure => simp [intOf]; omega
    · have hex : (decide ((j : Int) < (len2 : Int)) = false ∧ decide (j < len2) = false) ∨ (decide ((j : Int) < (len2 : Int)) = true ∧ decide (j < len2) = true ∧ decide ((j : Int) < 10) = false) := by
        by_cases h : j < len2
        · right; refine ⟨by simp; omega, by simp; omega, by simp; omega⟩
        · left; refine ⟨by simp; omega, by simp; omega⟩
      clear hlt
      obtain ⟨wo, hwo⟩ : ∃ wo : World, wo = wr := ⟨_, rfl⟩
      rw [← hwo] at H ⊢
      clear hwo wr
      rcases hex with ⟨hd1, hd1'⟩ | ⟨hd1, hd1', hd2⟩
      · obtain ⟨_, _, _, hkn, _, _⟩ := Hd.row_at H.out.drop
        subst hkn
        go_wp2_with fail
        refine (len_at H.out).mono ?_
        rintro e w' ⟨rfl, rfl⟩
        go_wp2_with fail
        refine (put1 2 ⟨#[]⟩ 1099511627776 0 0 0 hgd.out (may_non _) (by omega) H.out).mono ?_
        rintro e w2 ⟨x, L1, rfl, q, g, h⟩
        clear H
        have Q1 : Hid (PutAns L (nonT 1099511627776) x L1) := hid q
        have G1 := hid g
        have H := hid h
        have l1 := q.len
        have bbx := And.intro q.at.lo q.at.hi
        have Atx := hid q.at
        clear q g h
        go_wp2_with fail
        refine (put1 9 ⟨#[]⟩ 1 x 0 0 G1.out (may_key.2 (by omega)) (by omega) H.out).mono ?_
        rintro e w3 ⟨y, L2, rfl, q, g, h⟩
        clear H
        have Q2 : Hid (PutAns L1 (keyT x 1) y L2) := hid q
        have G2 := hid g
        have H := hid h
        have l2 := q.len
        have bby := And.intro q.at.lo q.at.hi
        have Aty := hid q.at
        clear q g h
        go_wp2_with fail
        refine (put1 3 ⟨#[]⟩ 0 x 0 0 G2.out (may_pub.2 (by omega)) (by omega) H.out).mono ?_
        rintro e w4 ⟨p1, L3, rfl, q, g, h⟩
        clear H
        have Q3 : Hid (PutAns L2 (pubT x) p1 L3) := hid q
        have G3 := hid g
        have H := hid h
        have l3 := q.len
        have bbp1 := And.intro q.at.lo q.at.hi
        have Atp1 := hid q.at
        clear q g h
        go_wp2_with fail
        refine (put1 8 ⟨#[]⟩ 0 x y 0 G3.out (may_has.2 (by omega)) (by omega) H.out).mono ?_
        rintro e w5 ⟨q1, L4, rfl, q, g, h⟩
        clear H
        have Q4 : Hid (PutAns L3 (hasT x y) q1 L4) := hid q
        have G4 := hid g
        have H := hid h
        have l4 := q.len
        have bbq1 := And.intro q.at.lo q.at.hi
        have Atq1 := hid q.at
        clear q g h
        go_wp2_with fail
        refine (len_at H.out).mono ?_
        rintro e w' ⟨rfl, rfl⟩
        by_cases hn : L4.length = L.length + 4
        case neg =>
          have f1 : ((L4.length : Int) == (L.length : Int) + 4) = false := by simp; omega
          have f2 : ((L4.length : Int) != (L.length : Int) + 4) = true := by simp; omega
          go_wp2_with fail
          refine (fixed8_calls H.out).mono ?_
          rintro e w' ⟨rfl, h5⟩
          have H5 := hid h5
          clear h5
          go_wp2_with fail
          go_ret
          exact ⟨rfl, H5.out.below⟩
        have f1 : ((L4.length : Int) == (L.length : Int) + 4) = true := by simp; omega
        have f2 : ((L4.length : Int) != (L.length : Int) + 4) = false := by simp; omega
        have n1 := Q1.out.new (by omega)
        have n2 := Q2.out.new (by omega)
        have n3 := Q3.out.new (by omega)
        have n4 := Q4.out.new (by omega)
        obtain ⟨e1, v1⟩ := n1
        obtain ⟨e2, v2⟩ := n2
        obtain ⟨e3, v3⟩ := n3
        obtain ⟨e4, v4⟩ := n4
        skip
        rw [e1] at v2
        rw [e2, e1] at v3
        rw [e3, e2, e1] at v4
        simp only [List.length_append, List.length_cons, List.length_nil] at v2
        simp only [List.length_append, List.length_cons, List.length_nil] at v3
        simp only [List.length_append, List.length_cons, List.length_nil] at v4
        have Vx : Hid (x = (L.length : Int) + 1) := hid (by omega)
        have Vy : Hid (y = (L.length : Int) + 2) := hid (by omega)
        have Vp1 : Hid (p1 = (L.length : Int) + 3) := hid (by omega)
        have Vq1 : Hid (q1 = (L.length : Int) + 4) := hid (by omega)
        have EX : Hid (L4 = L ++ [nonT 1099511627776, keyT ((L.length : Int) + 1) 1, pubT ((L.length : Int) + 1), hasT ((L.length : Int) + 1) ((L.length : Int) + 2)]) := hid (by rw [e4, e3, e2, e1]; simp only [List.append_assoc, List.cons_append, List.nil_append]; rw [Vx.out, Vy.out])
        clear e1 v1 e2 v2 e3 v3 e4 v4
        clear Q1 Q2 Q3 Q4
        have KX : Hid (∀ zz ∈ ks ++ [p1, q1], (1 ≤ zz ∧ zz ≤ (L.length : Int)) ∨ zz = (L.length : Int) + 3 ∨ zz = (L.length : Int) + 4) := hid fun zz hz => by
          rcases List.mem_append.1 hz with h | h
          · have := KI.out zz h
            omega
          · simp only [List.mem_cons, List.not_mem_nil, or_false] at h
            have h3 := Vp1.out
            have h4 := Vq1.out
            omega
        have KR : Hid (∀ zz ∈ ks ++ [p1, q1], 1 ≤ zz ∧ zz ≤ L4.length) := hid fun zz hz => by have := KX.out zz hz; omega
        have GE : Hid (Good (L ++ [nonT 1099511627776, keyT ((L.length : Int) + 1) 1, pubT ((L.length : Int) + 1), hasT ((L.length : Int) + 1) ((L.length : Int) + 2)])) := hid (by have := G4.out; rw [EX.out] at this; exact this)
        have NO : Hid (∀ zz, zz = x ∨ zz = y → ¬ Der L4 true true (fun u => u ∈ ks ++ [p1, q1]) zz) := hid fun zz hz => by
          rw [EX.out]
          exact hides_no GE.out KX.out zz (by have h1 := Vx.out; have h2 := Vy.out; omega)
        have lk : ks.length ≤ 10 := hj10
        clear KX GE hn f1
        by_cases hk0 : ks = []
        · subst hk0
          have H2 := hid (H.out.row_new (E := 3)).swap
          clear H
          obtain ⟨i0, hi0, hz0, hs0, hy0⟩ := info_i64
          have Hi0 := hid hi0
          have Hz0 := hid hz0
          have Hs0 := hid hs0
          have Hy0 := hid hy0
          clear hi0 hz0 hs0 hy0
          go_wp2_with (at_builtin; refine append_zero Try.underlying60 Hi0.out rfl (.tmp 129) (.tmp 130) rfl (by rfl) (Nat.le_refl _) (by rfl) ?_; generalize hwa : w5.alloc (.cells #[] 3 (0, 0)) = w_all at H2 ⊢; have H := H2; clear H2 hwa; have HA := hid (H.out.al (o := .cells #[.int .i64 p1, .int .i64 q1] 3 (0, 0))).swap; clear H; go_wp2_with (at_builtin; refine append_ints (k := .i64) (zs := []) (ys := [p1, q1]) Try.underlying60 Hi0.out Hz0.out Hs0.out Hy0.out (by decide) rfl (.tmp 132) (.tmp 135) rfl (by simp) HA.out (two_cells w_all p1 q1) (by rfl) (by rfl) (by simp only [List.length_cons, List.length_nil]; omega) ?_; intro g5 c5 w13 hq; simp only [Nat.zero_add, List.length_cons, List.length_nil, Nat.reduceAdd] at hq; have H := hid hq.swap; clear hq HA))
          refine (all_c true true (some ⟨g5, 0, none⟩) c5 KR.out H.out).mono ?_
          rintro e w14 ⟨u_a, rfl, hq⟩
          clear H
          obtain ⟨A, hA⟩ : ∃ A, allOf L4 true true (fun zz => zz ∈ (([] : List Int)) ++ [p1, q1]) = A := ⟨_, rfl⟩
          rw [hA] at hq
          have NX : Hid (∀ zz, zz = x ∨ zz = y → withinB [zz] A = false) := hid fun zz hz => by rw [withinB_one, ← hA]; exact decide_eq_false fun h => NO.out zz hz (mem_allOf.1 h).2
          have PX : Hid (withinB [p1, q1] A = true) := hid (by
            rw [← hA]
            refine decide_eq_true fun zz hz => mem_allOf.2 ⟨KR.out zz (List.mem_append_right _ hz), .known _ (List.mem_append_right _ hz)⟩)
          have lA : A.length ≤ 40 := by rw [← hA]; exact Nat.le_trans allOf_len (by omega)
          clear hA NO KR
          have H := hid hq.swap
          clear hq
          obtain ⟨d_a, c_a, rfl, _, _, hi⟩ := Hd.row_at H.out.drop
          have I_a := hid hi
          clear hi
          go_wp2_with fail
          refine (within_calls (intsAt_lit x [] rfl) (I_a.out.later (below_alloc _)) rfl rfl (by simp) (by omega)).mono ?_
          rw [NX.out x (.inl rfl)]
          rintro e w15 ⟨rfl, hb5⟩
          replace I_a := hid ((I_a.out.later (below_alloc _)).later hb5)
          replace H := hid (H.out.al.still hb5)
          clear hb5
          go_wp2_with fail
          refine (within_calls (intsAt_lit y [] rfl) (I_a.out.later (below_alloc _)) rfl rfl (by simp) (by omega)).mono ?_
          rw [NX.out y (.inr rfl)]
          rintro e w16 ⟨rfl, hb5⟩
          replace I_a := hid ((I_a.out.later (below_alloc _)).later hb5)
          replace H := hid (H.out.al.still hb5)
          clear hb5 NX
          go_wp2_with fail
          refine (within_calls (intsAt_lit p1 [q1] rfl) (I_a.out.later (below_alloc _)) rfl rfl (by simp) (by omega)).mono ?_
          rw [PX.out]
          rintro e w17 ⟨rfl, hb5⟩
          replace H := hid (H.out.al.still hb5)
          clear hb5 PX I_a
          go_wp2_with fail
          refine (fixed8_calls H.out).mono ?_
          rintro e w' ⟨rfl, h5⟩
          have H5 := hid h5
          clear h5
          go_wp2_with fail
          go_ret
          exact ⟨rfl, H5.out.below⟩
        · have hkp : 0 < ks.length := List.length_pos_iff.2 hk0
          obtain ⟨gk, rfl, _, hc⟩ := H.out.drop.row_some hkp
          have HC := hid hc
          clear hc hk0
          have HA := hid (H.out.row_new (E := 3))
          have HC2 : Hid (∀ (i : Nat) (z : Int), ks[i]? = some z → (w5.alloc (.cells #[] 3 (0, 0))).cell? ⟨gk, 0 + i, none⟩ = some (.int .i64 z)) := hid fun i z hi => ((below_alloc _).cell (World.block_lt_of_cell? _ _ (HC.out i z hi))).trans (HC.out i z hi)
          clear H HC
          obtain ⟨i0, hi0, hz0, hs0, hy0⟩ := info_i64
          have Hi0 := hid hi0
          have Hz0 := hid hz0
          have Hs0 := hid hs0
          have Hy0 := hid hy0
          clear hi0 hz0 hs0 hy0
          go_wp2_with (at_builtin; refine append_ints (k := .i64) (zs := []) (ys := ks) Try.underlying60 Hi0.out Hz0.out Hs0.out Hy0.out (by decide) rfl (.tmp 129) (.tmp 130) rfl hkp HA.out HC2.out (by rfl) (by rfl) (by omega) ?_; intro g4 c4 w_all hq; simp only [Nat.zero_add, List.nil_append] at hq ⊢; have H := hid hq.swap; clear hq HA HC2; have HA := hid (H.out.al (o := .cells #[.int .i64 p1, .int .i64 q1] 3 (0, 0))).swap; clear H; go_wp2_with (at_builtin; refine append_ints (k := .i64) (zs := ks) (ys := [p1, q1]) Try.underlying60 Hi0.out Hz0.out Hs0.out Hy0.out (by decide) rfl (.tmp 132) (.tmp 135) rfl (by simp) HA.out (two_cells w_all p1 q1) (by rfl) (by rfl) (by simp only [List.length_cons, List.length_nil]; omega) ?_; intro g5 c5 w13 hq; simp only [List.length_cons, List.length_nil, Nat.reduceAdd] at hq; have H := hid hq.swap; clear hq HA))
          refine (all_c true true (some ⟨g5, 0, none⟩) c5 KR.out H.out).mono ?_
          rintro e w14 ⟨u_a, rfl, hq⟩
          clear H
          obtain ⟨A, hA⟩ : ∃ A, allOf L4 true true (fun zz => zz ∈ ks ++ [p1, q1]) = A := ⟨_, rfl⟩
          rw [hA] at hq
          have NX : Hid (∀ zz, zz = x ∨ zz = y → withinB [zz] A = false) := hid fun zz hz => by rw [withinB_one, ← hA]; exact decide_eq_false fun h => NO.out zz hz (mem_allOf.1 h).2
          have PX : Hid (withinB [p1, q1] A = true) := hid (by
            rw [← hA]
            refine decide_eq_true fun zz hz => mem_allOf.2 ⟨KR.out zz (List.mem_append_right _ hz), .known _ (List.mem_append_right _ hz)⟩)
          have lA : A.length ≤ 40 := by rw [← hA]; exact Nat.le_trans allOf_len (by omega)
          clear hA NO KR
          have H := hid hq.swap
          clear hq
          obtain ⟨d_a, c_a, rfl, _, _, hi⟩ := Hd.row_at H.out.drop
          have I_a := hid hi
          clear hi
          go_wp2_with fail
          refine (within_calls (intsAt_lit x [] rfl) (I_a.out.later (below_alloc _)) rfl rfl (by simp) (by omega)).mono ?_
          rw [NX.out x (.inl rfl)]
          rintro e w15 ⟨rfl, hb5⟩
          replace I_a := hid ((I_a.out.later (below_alloc _)).later hb5)
          replace H := hid (H.out.al.still hb5)
          clear hb5
          go_wp2_with fail
          refine (within_calls (intsAt_lit y [] rfl) (I_a.out.later (below_alloc _)) rfl rfl (by simp) (by omega)).mono ?_
          rw [NX.out y (.inr rfl)]
          rintro e w16 ⟨rfl, hb5⟩
          replace I_a := hid ((I_a.out.later (below_alloc _)).later hb5)
          replace H := hid (H.out.al.still hb5)
          clear hb5 NX
          go_wp2_with fail
          refine (within_calls (intsAt_lit p1 [q1] rfl) (I_a.out.later (below_alloc _)) rfl rfl (by simp) (by omega)).mono ?_
          rw [PX.out]
          rintro e w17 ⟨rfl, hb5⟩
          replace H := hid (H.out.al.still hb5)
          clear hb5 PX I_a
          go_wp2_with fail
          refine (fixed8_calls H.out).mono ?_
          rintro e w' ⟨rfl, h5⟩
          have H5 := hid h5
          clear h5
          go_wp2_with fail
          go_ret
          exact ⟨rfl, H5.out.below⟩
      · obtain ⟨_, _, _, hkn, _, _⟩ := Hd.row_at H.out.drop
        subst hkn
        go_wp2_with fail
        refine (len_at H.out).mono ?_
        rintro e w' ⟨rfl, rfl⟩
        go_wp2_with fail
        refine (put1 2 ⟨#[]⟩ 1099511627776 0 0 0 hgd.out (may_non _) (by omega) H.out).mono ?_
        rintro e w2 ⟨x, L1, rfl, q, g, h⟩
        clear H
        have Q1 : Hid (PutAns L (nonT 1099511627776) x L1) := hid q
        have G1 := hid g
        have H := hid h
        have l1 := q.len
        have bbx := And.intro q.at.lo q.at.hi
        have Atx := hid q.at
        clear q g h
        go_wp2_with fail
        refine (put1 9 ⟨#[]⟩ 1 x 0 0 G1.out (may_key.2 (by omega)) (by omega) H.out).mono ?_
        rintro e w3 ⟨y, L2, rfl, q, g, h⟩
        clear H
        have Q2 : Hid (PutAns L1 (keyT x 1) y L2) := hid q
        have G2 := hid g
        have H := hid h
        have l2 := q.len
        have bby := And.intro q.at.lo q.at.hi
        have Aty := hid q.at
        clear q g h
        go_wp2_with fail
        refine (put1 3 ⟨#[]⟩ 0 x 0 0 G2.out (may_pub.2 (by omega)) (by omega) H.out).mono ?_
        rintro e w4 ⟨p1, L3, rfl, q, g, h⟩
        clear H
        have Q3 : Hid (PutAns L2 (pubT x) p1 L3) := hid q
        have G3 := hid g
        have H := hid h
        have l3 := q.len
        have bbp1 := And.intro q.at.lo q.at.hi
        have Atp1 := hid q.at
        clear q g h
        go_wp2_with fail
        refine (put1 8 ⟨#[]⟩ 0 x y 0 G3.out (may_has.2 (by omega)) (by omega) H.out).mono ?_
        rintro e w5 ⟨q1, L4, rfl, q, g, h⟩
        clear H
        have Q4 : Hid (PutAns L3 (hasT x y) q1 L4) := hid q
        have G4 := hid g
        have H := hid h
        have l4 := q.len
        have bbq1 := And.intro q.at.lo q.at.hi
        have Atq1 := hid q.at
        clear q g h
        go_wp2_with fail
        refine (len_at H.out).mono ?_
        rintro e w' ⟨rfl, rfl⟩
        by_cases hn : L4.length = L.length + 4
        case neg =>
          have f1 : ((L4.length : Int) == (L.length : Int) + 4) = false := by simp; omega
          have f2 : ((L4.length : Int) != (L.length : Int) + 4) = true := by simp; omega
          go_wp2_with fail
          refine (fixed8_calls H.out).mono ?_
          rintro e w' ⟨rfl, h5⟩
          have H5 := hid h5
          clear h5
          go_wp2_with fail
          go_ret
          exact ⟨rfl, H5.out.below⟩
        have f1 : ((L4.length : Int) == (L.length : Int) + 4) = true := by simp; omega
        have f2 : ((L4.length : Int) != (L.length : Int) + 4) = false := by simp; omega
        have n1 := Q1.out.new (by omega)
        have n2 := Q2.out.new (by omega)
        have n3 := Q3.out.new (by omega)
        have n4 := Q4.out.new (by omega)
        obtain ⟨e1, v1⟩ := n1
        obtain ⟨e2, v2⟩ := n2
        obtain ⟨e3, v3⟩ := n3
        obtain ⟨e4, v4⟩ := n4
        skip
        rw [e1] at v2
        rw [e2, e1] at v3
        rw [e3, e2, e1] at v4
        simp only [List.length_append, List.length_cons, List.length_nil] at v2
        simp only [List.length_append, List.length_cons, List.length_nil] at v3
        simp only [List.length_append, List.length_cons, List.length_nil] at v4
        have Vx : Hid (x = (L.length : Int) + 1) := hid (by omega)
        have Vy : Hid (y = (L.length : Int) + 2) := hid (by omega)
        have Vp1 : Hid (p1 = (L.length : Int) + 3) := hid (by omega)
        have Vq1 : Hid (q1 = (L.length : Int) + 4) := hid (by omega)
        have EX : Hid (L4 = L ++ [nonT 1099511627776, keyT ((L.length : Int) + 1) 1, pubT ((L.length : Int) + 1), hasT ((L.length : Int) + 1) ((L.length : Int) + 2)]) := hid (by rw [e4, e3, e2, e1]; simp only [List.append_assoc, List.cons_append, List.nil_append]; rw [Vx.out, Vy.out])
        clear e1 v1 e2 v2 e3 v3 e4 v4
        clear Q1 Q2 Q3 Q4
        have KX : Hid (∀ zz ∈ ks ++ [p1, q1], (1 ≤ zz ∧ zz ≤ (L.length : Int)) ∨ zz = (L.length : Int) + 3 ∨ zz = (L.length : Int) + 4) := hid fun zz hz => by
          rcases List.mem_append.1 hz with h | h
          · have := KI.out zz h
            omega
          · simp only [List.mem_cons, List.not_mem_nil, or_false] at h
            have h3 := Vp1.out
            have h4 := Vq1.out
            omega
        have KR : Hid (∀ zz ∈ ks ++ [p1, q1], 1 ≤ zz ∧ zz ≤ L4.length) := hid fun zz hz => by have := KX.out zz hz; omega
        have GE : Hid (Good (L ++ [nonT 1099511627776, keyT ((L.length : Int) + 1) 1, pubT ((L.length : Int) + 1), hasT ((L.length : Int) + 1) ((L.length : Int) + 2)])) := hid (by have := G4.out; rw [EX.out] at this; exact this)
        have NO : Hid (∀ zz, zz = x ∨ zz = y → ¬ Der L4 true true (fun u => u ∈ ks ++ [p1, q1]) zz) := hid fun zz hz => by
          rw [EX.out]
          exact hides_no GE.out KX.out zz (by have h1 := Vx.out; have h2 := Vy.out; omega)
        have lk : ks.length ≤ 10 := hj10
        clear KX GE hn f1
        by_cases hk0 : ks = []
        · subst hk0
          have H2 := hid (H.out.row_new (E := 3)).swap
          clear H
          obtain ⟨i0, hi0, hz0, hs0, hy0⟩ := info_i64
          have Hi0 := hid hi0
          have Hz0 := hid hz0
          have Hs0 := hid hs0
          have Hy0 := hid hy0
          clear hi0 hz0 hs0 hy0
          go_wp2_with (at_builtin; refine append_zero Try.underlying60 Hi0.out rfl (.tmp 129) (.tmp 130) rfl (by rfl) (Nat.le_refl _) (by rfl) ?_; generalize hwa : w5.alloc (.cells #[] 3 (0, 0)) = w_all at H2 ⊢; have H := H2; clear H2 hwa; have HA := hid (H.out.al (o := .cells #[.int .i64 p1, .int .i64 q1] 3 (0, 0))).swap; clear H; go_wp2_with (at_builtin; refine append_ints (k := .i64) (zs := []) (ys := [p1, q1]) Try.underlying60 Hi0.out Hz0.out Hs0.out Hy0.out (by decide) rfl (.tmp 132) (.tmp 135) rfl (by simp) HA.out (two_cells w_all p1 q1) (by rfl) (by rfl) (by simp only [List.length_cons, List.length_nil]; omega) ?_; intro g5 c5 w13 hq; simp only [Nat.zero_add, List.length_cons, List.length_nil, Nat.reduceAdd] at hq; have H := hid hq.swap; clear hq HA))
          refine (all_c true true (some ⟨g5, 0, none⟩) c5 KR.out H.out).mono ?_
          rintro e w14 ⟨u_a, rfl, hq⟩
          clear H
          obtain ⟨A, hA⟩ : ∃ A, allOf L4 true true (fun zz => zz ∈ (([] : List Int)) ++ [p1, q1]) = A := ⟨_, rfl⟩
          rw [hA] at hq
          have NX : Hid (∀ zz, zz = x ∨ zz = y → withinB [zz] A = false) := hid fun zz hz => by rw [withinB_one, ← hA]; exact decide_eq_false fun h => NO.out zz hz (mem_allOf.1 h).2
          have PX : Hid (withinB [p1, q1] A = true) := hid (by
            rw [← hA]
            refine decide_eq_true fun zz hz => mem_allOf.2 ⟨KR.out zz (List.mem_append_right _ hz), .known _ (List.mem_append_right _ hz)⟩)
          have lA : A.length ≤ 40 := by rw [← hA]; exact Nat.le_trans allOf_len (by omega)
          clear hA NO KR
          have H := hid hq.swap
          clear hq
          obtain ⟨d_a, c_a, rfl, _, _, hi⟩ := Hd.row_at H.out.drop
          have I_a := hid hi
          clear hi
          go_wp2_with fail
          refine (within_calls (intsAt_lit x [] rfl) (I_a.out.later (below_alloc _)) rfl rfl (by simp) (by omega)).mono ?_
          rw [NX.out x (.inl rfl)]
          rintro e w15 ⟨rfl, hb5⟩
          replace I_a := hid ((I_a.out.later (below_alloc _)).later hb5)
          replace H := hid (H.out.al.still hb5)
          clear hb5
          go_wp2_with fail
          refine (within_calls (intsAt_lit y [] rfl) (I_a.out.later (below_alloc _)) rfl rfl (by simp) (by omega)).mono ?_
          rw [NX.out y (.inr rfl)]
          rintro e w16 ⟨rfl, hb5⟩
          replace I_a := hid ((I_a.out.later (below_alloc _)).later hb5)
          replace H := hid (H.out.al.still hb5)
          clear hb5 NX
          go_wp2_with fail
          refine (within_calls (intsAt_lit p1 [q1] rfl) (I_a.out.later (below_alloc _)) rfl rfl (by simp) (by omega)).mono ?_
          rw [PX.out]
          rintro e w17 ⟨rfl, hb5⟩
          replace H := hid (H.out.al.still hb5)
          clear hb5 PX I_a
          go_wp2_with fail
          refine (fixed8_calls H.out).mono ?_
          rintro e w' ⟨rfl, h5⟩
          have H5 := hid h5
          clear h5
          go_wp2_with fail
          go_ret
          exact ⟨rfl, H5.out.below⟩
        · have hkp : 0 < ks.length := List.length_pos_iff.2 hk0
          obtain ⟨gk, rfl, _, hc⟩ := H.out.drop.row_some hkp
          have HC := hid hc
          clear hc hk0
          have HA := hid (H.out.row_new (E := 3))
          have HC2 : Hid (∀ (i : Nat) (z : Int), ks[i]? = some z → (w5.alloc (.cells #[] 3 (0, 0))).cell? ⟨gk, 0 + i, none⟩ = some (.int .i64 z)) := hid fun i z hi => ((below_alloc _).cell (World.block_lt_of_cell? _ _ (HC.out i z hi))).trans (HC.out i z hi)
          clear H HC
          obtain ⟨i0, hi0, hz0, hs0, hy0⟩ := info_i64
          have Hi0 := hid hi0
          have Hz0 := hid hz0
          have Hs0 := hid hs0
          have Hy0 := hid hy0
          clear hi0 hz0 hs0 hy0
          go_wp2_with (at_builtin; refine append_ints (k := .i64) (zs := []) (ys := ks) Try.underlying60 Hi0.out Hz0.out Hs0.out Hy0.out (by decide) rfl (.tmp 129) (.tmp 130) rfl hkp HA.out HC2.out (by rfl) (by rfl) (by omega) ?_; intro g4 c4 w_all hq; simp only [Nat.zero_add, List.nil_append] at hq ⊢; have H := hid hq.swap; clear hq HA HC2; have HA := hid (H.out.al (o := .cells #[.int .i64 p1, .int .i64 q1] 3 (0, 0))).swap; clear H; go_wp2_with (at_builtin; refine append_ints (k := .i64) (zs := ks) (ys := [p1, q1]) Try.underlying60 Hi0.out Hz0.out Hs0.out Hy0.out (by decide) rfl (.tmp 132) (.tmp 135) rfl (by simp) HA.out (two_cells w_all p1 q1) (by rfl) (by rfl) (by simp only [List.length_cons, List.length_nil]; omega) ?_; intro g5 c5 w13 hq; simp only [List.length_cons, List.length_nil, Nat.reduceAdd] at hq; have H := hid hq.swap; clear hq HA))
          refine (all_c true true (some ⟨g5, 0, none⟩) c5 KR.out H.out).mono ?_
          rintro e w14 ⟨u_a, rfl, hq⟩
          clear H
          obtain ⟨A, hA⟩ : ∃ A, allOf L4 true true (fun zz => zz ∈ ks ++ [p1, q1]) = A := ⟨_, rfl⟩
          rw [hA] at hq
          have NX : Hid (∀ zz, zz = x ∨ zz = y → withinB [zz] A = false) := hid fun zz hz => by rw [withinB_one, ← hA]; exact decide_eq_false fun h => NO.out zz hz (mem_allOf.1 h).2
          have PX : Hid (withinB [p1, q1] A = true) := hid (by
            rw [← hA]
            refine decide_eq_true fun zz hz => mem_allOf.2 ⟨KR.out zz (List.mem_append_right _ hz), .known _ (List.mem_append_right _ hz)⟩)
          have lA : A.length ≤ 40 := by rw [← hA]; exact Nat.le_trans allOf_len (by omega)
          clear hA NO KR
          have H := hid hq.swap
          clear hq
          obtain ⟨d_a, c_a, rfl, _, _, hi⟩ := Hd.row_at H.out.drop
          have I_a := hid hi
          clear hi
          go_wp2_with fail
          refine (within_calls (intsAt_lit x [] rfl) (I_a.out.later (below_alloc _)) rfl rfl (by simp) (by omega)).mono ?_
          rw [NX.out x (.inl rfl)]
          rintro e w15 ⟨rfl, hb5⟩
          replace I_a := hid ((I_a.out.later (below_alloc _)).later hb5)
          replace H := hid (H.out.al.still hb5)
          clear hb5
          go_wp2_with fail
          refine (within_calls (intsAt_lit y [] rfl) (I_a.out.later (below_alloc _)) rfl rfl (by simp) (by omega)).mono ?_
          rw [NX.out y (.inr rfl)]
          rintro e w16 ⟨rfl, hb5⟩
          replace I_a := hid ((I_a.out.later (below_alloc _)).later hb5)
          replace H := hid (H.out.al.still hb5)
          clear hb5 NX
          go_wp2_with fail
          refine (within_calls (intsAt_lit p1 [q1] rfl) (I_a.out.later (below_alloc _)) rfl rfl (by simp) (by omega)).mono ?_
          rw [PX.out]
          rintro e w17 ⟨rfl, hb5⟩
          replace H := hid (H.out.al.still hb5)
          clear hb5 PX I_a
          go_wp2_with fail
          refine (fixed8_calls H.out).mono ?_
          rintro e w' ⟨rfl, h5⟩
          have H5 := hid h5
          clear h5
          go_wp2_with fail
          go_ret
          exact ⟨rfl, H5.out.below⟩
end Go.Proofs.Ytbaliaodioflfaa
