/-
  ChainBack returns true, and writes nothing that was there. For every input.
-/
import Derived.Test.YtpcfmafokkffgaaFixCh
import Derived.Test.YtpcfmafokkffgaaChainT
namespace Go.Proofs.Ytpcfmafokkffgaa
open Go.RowKit

set_option maxRecDepth 100000 in
set_option maxHeartbeats 16000000 in
theorem chainBack_walk (x0 : Int) (b0 : 0 ≤ x0) (b0' : x0 ≤ 255) (x1 : Int) (b1 : 0 ≤ x1) (b1' : x1 ≤ 255) (W : World) :
    Calls Try.prog 8 #[.int .u8 x0, .int .u8 x1] W fun e w' => e = .returned (.bool true) ∧ Below W.heap.size W w' := by
  have H := hid (Hd.refl W)
  obtain ⟨N, hN⟩ : ∃ N : Nat, x0 % 10 = N := ⟨(x0 % 10).toNat, by omega⟩
  have hN9 : N ≤ 9 := by omega
  have z2 : IntKind.i64.wrap x0 = x0 := IntWalk.i64_in _ (by omega)
  have z3 : x0.tmod 10 = N := (Int.tmod_eq_emod_of_nonneg b0).trans hN
  have z4 : IntKind.i64.wrap (N : Int) = N := IntWalk.i64_in _ (by omega)
  have z5 : IntKind.i64.wrap (2 + (N : Int)) = 2 + N := IntWalk.i64_in _ (by omega)
  obtain ⟨L0, hp1, hst, hln⟩ := back_start (m := 100) 7 (by omega)
  have HP1 := hid hp1
  have HS := hid hst
  have HX1 := hid b1
  have HX2 := hid b1'
  clear hp1 hst b0 b0' b1 b1' hN
  go_enter Try.func8, Try.ntmps8
  go_wp2_with fail
  refine (new_calls H.out (by decide) (by decide)).mono ?_
  rintro e w1 ⟨b, rfl, h1⟩
  clear H
  have H := hid h1
  clear h1
  go_wp2_with fail
  refine (put_c 2 ⟨#[]⟩ 7 0 0 0 (show Hid (put 100 [] ⟨2, ⟨#[]⟩, 7, 0, 0, 0⟩ = (1, 0, L0)) from HP1) H.out).mono ?_
  rintro e w3 ⟨rfl, h1⟩
  clear H
  have H := hid h1
  clear h1 HP1
  obtain ⟨p9, hp9⟩ : ∃ p, w3.heap.size = p := ⟨_, rfl⟩
  have HP := hid hp9
  go_wp2_with fail
  have HB := hid (((H.out.boxk (o := .cells #[.int .i64 1, .int .i64 0] 32 (0, 0)) p9 hp9).row_newk (E := 3) (p9 + 1) (by simp; omega)).row_newk (E := 3) (p9 + 1 + 1) (by simp; omega))
  clear H
  go_loopw [10, 11, 13] (fun vc vk q wr => ∃ j : Nat, j ≤ N + 2 ∧ q = .int .i64 j ∧ ∃ (kad : Option Addr) (kcap : Nat) (ks : List Int) (cad : Option Addr) (ccap : Nat) (cs : List Int) (c : Int) (L : List T), vc = .slice cad j ccap ∧ vk = .slice kad j kcap ∧ Hid (BackSt L j c cs ks) ∧ Hid (L.length ≤ 1 + 2 * j) ∧ Hid (Hd W wr (Sto b L 100 :: RowR 3 1 (.slice cad j ccap) j (nums .i64 cs) :: RowR 3 1 (.slice kad j kcap) j (nums .i64 ks) :: Blk p9 (.cells #[.int .i64 c, .int .i64 (j : Int)] 32 (0, 0)) :: []))) (fun _ _ q _ => N + 2 - (intOf q).toNat)
  case atStart => exact ⟨0, Nat.zero_le _, rfl, _, _, [], _, _, [], 1, L0, rfl, rfl, HS, hid (by omega), hid ((((HB.out.front 2 rfl).front 1 rfl).front 2 rfl).front 3 rfl)⟩
  case round =>
    clear HB HS hln HP hp9
    obtain ⟨j, hj, rfl, kad, kcap, ks, cad, ccap, cs, c, L, rfl, rfl, HS, HL, H⟩ := hrel
    obtain ⟨wo, hwo⟩ : ∃ wo : World, wo = wr := ⟨_, rfl⟩
    rw [← hwo] at H ⊢
    clear hwo wr
    by_cases hlt : j < N + 2
    · have hd1 : decide ((j : Int) < 2 + (N : Int)) = true := by simp; omega
      obtain ⟨a', u, L1', L2', q1, q2, hst, hln⟩ := back_step (m := 100) HS.out (by have := HL.out; omega)
      have Q1 := hid q1
      have Q2 := hid (next15_of (e := (j : Int)) (by omega) (by omega) q2)
      have HST := hid hst
      have HLN : Hid (L2'.length ≤ 1 + 2 * (j + 1)) := hid (by have := HL.out; omega)
      have HLT := hid hlt
      have z6 : IntKind.i64.wrap ((j : Int) + 1) = j + 1 := IntWalk.i64_in _ (by omega)
      have zj0 : (0 : Int) ≤ (j : Int) := by omega
      clear q1 q2 hst hln HS HL hlt
      have hk := Hd.nthk 3 H.out rfl
      have ba0 := (cell_of_heap hk 0).trans (show _ = some (.int .i64 (c)) from rfl)
      have ba1 := (cell_of_heap hk 1).trans (show _ = some (.int .i64 (j)) from rfl)
      have bas := (Array.getElem?_eq_some_iff.1 hk).1
      clear hk
      go_wp2_with fail
      refine (seal15_calls c j Q1.out H.out).mono ?_
      rintro e w4 ⟨rfl, h1⟩
      clear H ba0 ba1 bas
      have H := hid h1
      clear h1
      have hk := Hd.nthk 3 H.out rfl
      have ba0 := (cell_of_heap hk 0).trans (show _ = some (.int .i64 (c)) from rfl)
      have ba1 := (cell_of_heap hk 1).trans (show _ = some (.int .i64 (j)) from rfl)
      have bas := (Array.getElem?_eq_some_iff.1 hk).1
      clear hk
      go_wp2_with fail
      refine (next15_calls c j Q2.out H.out).mono ?_
      rintro e w5 ⟨rfl, h1⟩
      clear H ba0 ba1 bas
      have H := hid h1
      clear h1
      clear Q1 Q2
      have hk := Hd.nthk 3 H.out rfl
      have ba0 := (cell_of_heap hk 0).trans (show _ = some (.int .i64 (c)) from rfl)
      have ba1 := (cell_of_heap hk 1).trans (show _ = some (.int .i64 (j)) from rfl)
      have bas := (Array.getElem?_eq_some_iff.1 hk).1
      clear hk
      obtain ⟨i0, hi0, hz0, hs0, hy0⟩ := info_int
      have Hi0 := hid hi0
      have Hz0 := hid hz0
      have Hs0 := hid hs0
      have Hy0 := hid hy0
      clear hi0 hz0 hs0 hy0
      have HA := hid (H.out.bx (o := .cells #[.int .i64 u, .int .i64 ((j : Int) + 1)] 32 (0, 0)))
      clear H
      have HB := hid (HA.out.front 2 rfl)
      clear HA
      go_wp2_with (at_builtin; refine append_num (k := .i64) (zs := cs) Try.underlying33 Hi0.out Hz0.out Hs0.out Hy0.out (by decide) rfl (.tmp 69) (.tmp 72) rfl HB.out (by rfl) c (by first | rfl | simp [Act.eval]) (by omega) ?_; intro g5 c5 w9 hq; clear ba0 ba1 bas; have H := hid (hq.front 3 rfl); clear hq HB; have hk := Hd.nthk 3 H.out rfl; have bc0 := (cell_of_heap hk 0).trans (show _ = some (.int .i64 (u)) from rfl); have bc1 := (cell_of_heap hk 1).trans (show _ = some (.int .i64 (j + 1)) from rfl); have bcs := (Array.getElem?_eq_some_iff.1 hk).1; clear hk; have hk := Hd.nthk 4 H.out rfl; have ba0 := (cell_of_heap hk 0).trans (show _ = some (.int .i64 (c)) from rfl); have ba1 := (cell_of_heap hk 1).trans (show _ = some (.int .i64 (j)) from rfl); have bas := (Array.getElem?_eq_some_iff.1 hk).1; have baf := frozen_of_heap hk; clear hk; go_wp2_with (at_builtin; refine append_num (k := .i64) (zs := ks) Try.underlying33 Hi0.out Hz0.out Hs0.out Hy0.out (by decide) rfl (.tmp 74) (.tmp 76) rfl H.out (by rfl) a' (by first | rfl | simp [Act.eval]) (by omega) ?_; intro g6 c6 w10 hq; clear bc0 bc1 bcs ba0 ba1 bas baf H; have H := hid hq; clear hq; have hk := Hd.nthk 3 H.out rfl; have bc0 := (cell_of_heap hk 0).trans (show _ = some (.int .i64 (u)) from rfl); have bc1 := (cell_of_heap hk 1).trans (show _ = some (.int .i64 (j + 1)) from rfl); have bcs := (Array.getElem?_eq_some_iff.1 hk).1; clear hk; have hk := Hd.nthk 4 H.out rfl; have ba0 := (cell_of_heap hk 0).trans (show _ = some (.int .i64 (c)) from rfl); have ba1 := (cell_of_heap hk 1).trans (show _ = some (.int .i64 (j)) from rfl); have bas := (Array.getElem?_eq_some_iff.1 hk).1; have baf := frozen_of_heap hk; clear hk))
      go_roundw
      case rel =>
        refine ⟨j + 1, (by have := HLT.out; omega), by go_num, _, _, ks ++ [a'], _, _, cs ++ [c], u, L2', rfl, rfl, HST, HLN, hid ?_⟩
        rw [show ((j + 1 : Nat) : Int) = (j : Int) + 1 by omega]
        have h9 := (((H.out.front 4 rfl).set 0 (.int .i64 u)).set 1 (.int .i64 (j + 1)))
        exact ((((h9.front 1 rfl).front 2 rfl).front 3 rfl).front 4 rfl).drop
      case measure => have := HLT.out; simp [intOf]; omega
    · obtain rfl : j = N + 2 := by omega
      have hd1 : decide (((N + 2 : Nat) : Int) < 2 + (N : Int)) = false := by simp; omega
      have hd2 : decide ((N : Int) + 2 < 2 + (N : Int)) = false := by simp; omega
      obtain ⟨K, hK⟩ : ∃ K : Nat, x1 % (2 + (N : Int)) = K := ⟨(x1 % (2 + (N : Int))).toNat, by have := Int.emod_nonneg x1 (show (2 + (N : Int)) ≠ 0 by omega); omega⟩
      have hKN : K < N + 2 := by have := Int.emod_lt_of_pos x1 (show 0 < (2 + (N : Int)) by omega); omega
      have y0 : IntKind.i64.wrap x1 = x1 := IntWalk.i64_in _ (by have := HX1.out; have := HX2.out; omega)
      have y1 : x1.tmod (2 + (N : Int)) = K := (Int.tmod_eq_emod_of_nonneg HX1.out).trans hK
      have y2 : IntKind.i64.wrap (K : Int) = K := IntWalk.i64_in _ (by omega)
      have y3 : ¬ (2 + (N : Int) = 0) := by omega
      have yk0 : (0 : Int) ≤ (K : Int) := by omega
      have yk1 : (K : Int) < ((N + 2 : Nat) : Int) := by omega
      have yk2 : (K : Int) < (N : Int) + 2 := by omega
      obtain ⟨a1, c1, e1, l1, _, i1⟩ := (H.out.front 1 rfl).row_is
      simp only [Value.slice.injEq, true_and] at e1
      obtain ⟨rfl, rfl⟩ := e1
      obtain ⟨a2, c2, e2, l2, _, i2⟩ := (H.out.front 2 rfl).row_is
      simp only [Value.slice.injEq, true_and] at e2
      obtain ⟨rfl, rfl⟩ := e2
      obtain ⟨g1, o1, rfl, hc1⟩ := i1.resolve_left fun e => by rw [e] at l1; simp at l1
      obtain ⟨g2, o2, rfl, hc2⟩ := i2.resolve_left fun e => by rw [e] at l2; simp at l2
      have d1 := hc1 K (by omega)
      have d1s := World.block_lt_of_cell? _ _ d1
      obtain ⟨ck, hck⟩ : ∃ ck, cs.getD K 0 = ck := ⟨_, rfl⟩
      rw [hck] at d1
      have hck2 : cs[K]? = some ck := by
        have h9 : K < cs.length := by omega
        rw [← hck, List.getD_eq_getElem?_getD, List.getElem?_eq_getElem h9]; rfl
      obtain ⟨hb1, hb2⟩ := back_der (dh := true) (kem := true) HS.out hck2
      have B1 := hid hb1
      have B2 := hid hb2
      have hin : ∀ x ∈ [ck], 1 ≤ x ∧ x ≤ L.length := fun x hx => by
        simp only [List.mem_singleton] at hx
        subst hx
        exact (mem_allOf.1 ((hb1 K x hck2).2 (Nat.le_refl _))).1
      have HIN := hid hin
      have L1 := hid l1
      have L2 := hid l2
      have HC1 := hid hc1
      have HC2 := hid hc2
      clear hb1 hb2 hin hck hck2 i1 i2 hc1 hc2 l1 l2 hlt hK hj HS HL
      go_wp2_with fail
      have HB := hid ((H.out.row_lit (E := 3) wo.heap.size rfl [ck] (n := 1) rfl rfl (by decide)).swap)
      clear H d1 d1s
      refine (all_c true true (some ⟨wo.heap.size, 0, none⟩) 1 HIN.out HB.out).mono ?_
      obtain ⟨A, hA⟩ : ∃ A, allOf L true true (fun y => y ∈ [ck]) = A := ⟨_, rfl⟩
      rw [hA]
      rw [hA] at B1 B2
      rintro e w5 ⟨v19, rfl, hq⟩
      obtain ⟨a19, c19, rfl, la, ma, ia⟩ := hq.row_is
      clear HB hA ia HIN
      have H := hid hq
      clear hq la
      have MA := hid ma
      clear ma
      obtain ⟨na, hna⟩ : ∃ na, A.length = na := ⟨_, rfl⟩
      rw [hna] at H MA ⊢
      clear hna
      go_wp2_with fail
      go_loopw [21] (fun q wr => ∃ j : Nat, j ≤ N + 2 ∧ q = .int .i64 j ∧ Hid (Hd W wr (RowR 3 1 (.slice a19 na c19) na (nums .i64 A) :: Sto b L 100 :: RowR 3 1 (.slice (some ⟨wo.heap.size, 0, none⟩) 1 1) 1 (nums .i64 [ck]) :: RowR 3 1 (.slice (some ⟨g1, o1, none⟩) (N + 2) ccap) (N + 2) (nums .i64 cs) :: RowR 3 1 (.slice (some ⟨g2, o2, none⟩) (N + 2) kcap) (N + 2) (nums .i64 ks) :: Blk p9 (.cells #[.int .i64 c, .int .i64 ((N + 2 : Nat) : Int)] 32 (0, 0)) :: []))) (fun q _ => N + 2 - (intOf q).toNat)
      case atStart => exact ⟨0, Nat.zero_le _, rfl, H⟩
      case round =>
        clear H
        obtain ⟨j, hj, rfl, H⟩ := hrel
        by_cases hlt : j < N + 2
        · have hd3 : decide ((j : Int) < 2 + (N : Int)) = true := by simp; omega
          have zj0 : (0 : Int) ≤ (j : Int) := by omega
          have zj1 : (j : Int) < ((N + 2 : Nat) : Int) := by omega
          have zj2 : (j : Int) < (N : Int) + 2 := by omega
          obtain ⟨_, _, e3, la, _, ia⟩ := H.out.row_is
          simp only [Value.slice.injEq, true_and] at e3
          obtain ⟨rfl, rfl⟩ := e3
          obtain ⟨_, _, e1, l1, _, i1⟩ := (H.out.front 3 rfl).row_is
          simp only [Value.slice.injEq, true_and] at e1
          obtain ⟨rfl, rfl⟩ := e1
          obtain ⟨_, _, e2, l2, _, i2⟩ := (H.out.front 4 rfl).row_is
          simp only [Value.slice.injEq, true_and] at e2
          obtain ⟨rfl, rfl⟩ := e2
          obtain ⟨_, _, e1, hc1⟩ := i1.resolve_left fun e => by rw [e] at l1; simp at l1
          simp only [Option.some.injEq, Addr.mk.injEq, and_true] at e1
          obtain ⟨rfl, rfl⟩ := e1
          obtain ⟨_, _, e2, hc2⟩ := i2.resolve_left fun e => by rw [e] at l2; simp at l2
          simp only [Option.some.injEq, Addr.mk.injEq, and_true] at e2
          obtain ⟨rfl, rfl⟩ := e2
          have d1 := hc1 j (by omega)
          have d2 := hc2 j (by omega)
          have y1' : cs[j]? = some (cs.getD j 0) := by
            have h9 : j < cs.length := by omega
            rw [List.getD_eq_getElem?_getD, List.getElem?_eq_getElem h9]; rfl
          have y2' : ks[j]? = some (ks.getD j 0) := by
            have h9 : j < ks.length := by omega
            rw [List.getD_eq_getElem?_getD, List.getElem?_eq_getElem h9]; rfl
          have m1 := B1.out j _ y1'
          have m2 := B2.out j _ y2'
          obtain ⟨xc, hxc⟩ : ∃ x, cs.getD j 0 = x := ⟨_, rfl⟩
          obtain ⟨xk, hxk⟩ : ∃ x, ks.getD j 0 = x := ⟨_, rfl⟩
          rw [hxc] at d1 m1
          rw [hxk] at d2 m2
          have IA := hid ia
          have LA := hid la
          have hc : (K ≤ j) ∨ ¬ K ≤ j := Classical.em _
          clear hc1 hc2 i1 i2 l1 l2 y1' y2' hxc hxk ia la
          have HLT := hid hlt
          clear hlt
          rcases hc with hc | hc
          · have hd4 : decide ((K : Int) ≤ (j : Int)) = true := by simp; omega
            have hd5 : decide (K ≤ j) = true := by simp; omega
            have hd6 : decide (j < K) = false := by simp; omega
            have M1 : Hid (decide (xc ∈ A) = true) := hid (decide_eq_true (m1.2 hc))
            have M2 : Hid (decide (xk ∈ A) = true) := hid (decide_eq_true (m2.2 hc))
            clear m1 m2 hc
            go_wp2_with fail
            refine (has15_calls xc IA.out LA.out (by have := MA.out; unfold maxLen at this; omega)).mono ?_
            rw [M1.out]
            rintro e w' ⟨rfl, rfl⟩
            go_wp2_with fail
            refine (has15_calls xk IA.out LA.out (by have := MA.out; unfold maxLen at this; omega)).mono ?_
            rw [M2.out]
            rintro e w' ⟨rfl, rfl⟩
            go_wp2_with fail
            go_roundw
            case rel => exact ⟨j + 1, (by have := HLT.out; omega), by go_num, H⟩
            case measure => have := HLT.out; simp [intOf]; omega
          · have hd4 : decide ((K : Int) ≤ (j : Int)) = false := by simp; omega
            have hd5 : decide (K ≤ j) = false := by simp; omega
            have hd6 : decide (j < K) = true := by simp; omega
            have M1 : Hid (decide (xc ∈ A) = false) := hid (decide_eq_false fun h => hc (m1.1 h))
            have M2 : Hid (decide (xk ∈ A) = false) := hid (decide_eq_false fun h => hc (m2.1 h))
            clear m1 m2 hc
            go_wp2_with fail
            refine (has15_calls xc IA.out LA.out (by have := MA.out; unfold maxLen at this; omega)).mono ?_
            rw [M1.out]
            rintro e w' ⟨rfl, rfl⟩
            go_wp2_with fail
            refine (has15_calls xk IA.out LA.out (by have := MA.out; unfold maxLen at this; omega)).mono ?_
            rw [M2.out]
            rintro e w' ⟨rfl, rfl⟩
            go_wp2_with fail
            go_roundw
            case rel => exact ⟨j + 1, (by have := HLT.out; omega), by go_num, H⟩
            case measure => have := HLT.out; simp [intOf]; omega
        · have hd3 : decide ((j : Int) < 2 + (N : Int)) = false := by simp; omega
          go_wp2_with fail
          refine (fixed15_calls H.out).mono ?_
          rintro e w9 ⟨rfl, h1⟩
          clear H
          have H := hid h1
          clear h1
          go_wp2_with fail
          go_ret
          exact ⟨rfl, H.out.below⟩
end Go.Proofs.Ytpcfmafokkffgaa
