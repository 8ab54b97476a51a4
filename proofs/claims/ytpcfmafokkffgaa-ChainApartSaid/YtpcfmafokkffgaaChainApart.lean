/-
  ChainApart returns true, and writes nothing that was there. For every input.
-/
import Derived.Test.YtpcfmafokkffgaaFixCh
import Derived.Test.YtpcfmafokkffgaaChainR
namespace Go.Proofs.Ytpcfmafokkffgaa
open Go.RowKit

set_option maxRecDepth 100000 in
set_option maxHeartbeats 16000000 in
theorem chainApart_walk (x0 : Int) (b0 : 0 ≤ x0) (b0' : x0 ≤ 255) (x1 : Int) (b1 : 0 ≤ x1) (b1' : x1 ≤ 255) (x2 : Int) (b2 : 0 ≤ x2) (b2' : x2 ≤ 255) (W : World) :
    Calls Try.prog 5 #[.int .u8 x0, .int .u8 x1, .int .u8 x2] W fun e w' => e = .returned (.bool true) ∧ Below W.heap.size W w' := by
  have H := hid (Hd.refl W)
  obtain ⟨N, hN⟩ : ∃ N : Nat, x2 % 12 = N := ⟨(x2 % 12).toNat, by omega⟩
  have hN11 : N ≤ 11 := by omega
  have z0 : IntKind.u64.wrap x0 = x0 := IntWalk.u64_in _ (by omega)
  have z1 : IntKind.u64.wrap x1 = x1 := IntWalk.u64_in _ (by omega)
  have z2 : IntKind.i64.wrap x2 = x2 := IntWalk.i64_in _ (by omega)
  have z3 : x2.tmod 12 = N := (Int.tmod_eq_emod_of_nonneg b2).trans hN
  have z4 : IntKind.i64.wrap (N : Int) = N := IntWalk.i64_in _ (by omega)
  have z5 : IntKind.i64.wrap (1 + (N : Int)) = 1 + N := IntWalk.i64_in _ (by omega)
  obtain ⟨x, y, L1, L2, hp1, hp2, hst, hln⟩ := apart_start (m := 200) (n1 := x0) (n2 := x1) (by omega)
  have HP1 := hid hp1
  have HP2 := hid hp2
  have HS := hid hst
  clear hp1 hp2 hst b0 b0' b1 b1' b2 b2' hN
  go_enter Try.func5, Try.ntmps5
  go_wp2_with fail
  refine (new_calls H.out (by decide) (by decide)).mono ?_
  rintro e w1 ⟨b, rfl, h1⟩
  clear H
  have H := hid h1
  clear h1
  go_wp2_with fail
  refine (put_c 2 ⟨#[]⟩ x0 0 0 0 (show Hid (put 200 [] ⟨2, ⟨#[]⟩, x0, 0, 0, 0⟩ = (x, 0, L1)) from HP1) H.out).mono ?_
  rintro e w2 ⟨rfl, h1⟩
  clear H
  have H := hid h1
  clear h1
  go_wp2_with fail
  refine (put_c 2 ⟨#[]⟩ x1 0 0 0 (show Hid (put 200 L1 ⟨2, ⟨#[]⟩, x1, 0, 0, 0⟩ = (y, 0, L2)) from HP2) H.out).mono ?_
  rintro e w3 ⟨rfl, h1⟩
  clear H
  have H := hid h1
  clear h1 HP1 HP2 z0 z1
  obtain ⟨p13, hp13⟩ : ∃ p, w3.heap.size = p := ⟨_, rfl⟩
  have HP := hid hp13
  go_wp2_with fail
  have HB := hid ((((H.out.boxk (o := .cells #[.int .i64 x, .int .i64 0] 32 (0, 0)) p13 hp13).boxk (o := .cells #[.int .i64 y, .int .i64 0] 32 (0, 0)) (p13 + 1) (by simp; omega)).row_newk (E := 3) (p13 + 1 + 1) (by simp; omega)).row_lit (E := 3) (p13 + 1 + 1 + 1) (by simp; omega) [x, y] (n := 2) rfl rfl (by decide))
  clear H
  go_loopw [15, 16, 17] (fun vk vc q wr => ∃ j : Nat, j ≤ N + 1 ∧ q = .int .i64 j ∧ ∃ (kad : Option Addr) (nk kcap : Nat) (ks : List Int) (cad : Option Addr) (nc ccap : Nat) (cs : List Int) (c d : Int) (L : List T), vk = .slice kad nk kcap ∧ vc = .slice cad nc ccap ∧ Hid (ApSt L j (x0 = x1) c d ks cs) ∧ Hid (nk = 2 * j) ∧ Hid (nc = 2 * j + 2) ∧ Hid (L.length ≤ 2 + 4 * j) ∧ Hid (Hd W wr (Sto b L 200 :: RowR 3 1 (.slice kad nk kcap) nk (nums .i64 ks) :: RowR 3 1 (.slice cad nc ccap) nc (nums .i64 cs) :: Blk p13 (.cells #[.int .i64 c, .int .i64 (j : Int)] 32 (0, 0)) :: Blk (p13 + 1) (.cells #[.int .i64 d, .int .i64 (j : Int)] 32 (0, 0)) :: []))) (fun _ _ q _ => N + 1 - (intOf q).toNat)
  case atStart => exact ⟨0, Nat.zero_le _, rfl, _, _, _, [], _, _, _, [x, y], x, y, L2, rfl, rfl, HS, hid rfl, hid rfl, hid hln, hid ((((((HB.out.front 2 rfl).front 3 rfl).front 2 rfl).front 3 rfl).front 4 rfl))⟩
  case round =>
    clear HB HS hln HP hp13
    obtain ⟨j, hj, rfl, kad, nk, kcap, ks, cad, nc, ccap, cs, c, d, L, rfl, rfl, HS, hnk, hnc, HL, H⟩ := hrel
    obtain ⟨wo, hwo⟩ : ∃ wo : World, wo = wr := ⟨_, rfl⟩
    rw [← hwo] at H ⊢
    clear hwo wr
    by_cases hlt : j < N + 1
    · have hd1 : decide ((j : Int) < 1 + (N : Int)) = true := by simp; omega
      obtain ⟨a', b', u, v, L1', L2', L3', L4', q1, q2, q3, q4, e1, e2, ⟨k1, k2, k3, k4⟩, ⟨k5, k6, k7⟩, ⟨k8, k9, k10, k11⟩, hst, hln⟩ := apart_step (m := 200) HS.out (by have := HL.out; omega)
      have Q1 := hid q1
      have Q2 := hid q2
      have Q3 := hid (next15_of (e := (j : Int)) (by omega) (by omega) q3)
      have Q4 := hid (next15_of (e := (j : Int)) (by omega) (by omega) q4)
      have hB1 : (a' == b') = (x0 == x1) := beq_same e1
      have hB2 : (u == v) = (x0 == x1) := beq_same e2
      have HST := hid hst
      have HLN : Hid (L4'.length ≤ 2 + 4 * (j + 1)) := hid (by have := HL.out; omega)
      have K1 := hid k1
      have K2 := hid k2
      have K3 := hid k3
      have K4 := hid k4
      have K5 := hid k5
      have K6 := hid k6
      have K7 := hid k7
      have hne1 : (a' == u) = false := by simpa using k8
      have hne2 : (b' == v) = false := by simpa using k9
      have hne3 : (a' == v) = false := by simpa using k10
      have hne4 : (b' == u) = false := by simpa using k11
      have z6 : IntKind.i64.wrap ((j : Int) + 1) = j + 1 := IntWalk.i64_in _ (by omega)
      have z7 : ((j : Int) + 1 != j + 1) = false := by simp
      obtain ⟨B, hBB⟩ : ∃ B, (x0 == x1) = B := ⟨_, rfl⟩
      rw [hBB] at hB1 hB2
      have hB3 : (B != B) = false := by simp
      have zj0 : (0 : Int) ≤ (j : Int) := by omega
      have HLT := hid hlt
      clear q1 q2 q3 q4 e1 e2 k1 k2 k3 k4 k5 k6 k7 k8 k9 k10 k11 hst hln HS HL hlt
      have hk := Hd.nthk 3 H.out rfl
      have ba0 := (cell_of_heap hk 0).trans (show _ = some (.int .i64 (c)) from rfl)
      have ba1 := (cell_of_heap hk 1).trans (show _ = some (.int .i64 (j)) from rfl)
      have bas := (Array.getElem?_eq_some_iff.1 hk).1
      clear hk
      have hk := Hd.nthk 4 H.out rfl
      have bb0 := (cell_of_heap hk 0).trans (show _ = some (.int .i64 (d)) from rfl)
      have bb1 := (cell_of_heap hk 1).trans (show _ = some (.int .i64 (j)) from rfl)
      have bbs := (Array.getElem?_eq_some_iff.1 hk).1
      clear hk
      go_wp2_with fail
      refine (seal15_calls c j Q1.out H.out).mono ?_
      rintro e w4 ⟨rfl, h1⟩
      clear H ba0 ba1 bas bb0 bb1 bbs
      have H := hid h1
      clear h1
      have hk := Hd.nthk 3 H.out rfl
      have ba0 := (cell_of_heap hk 0).trans (show _ = some (.int .i64 (c)) from rfl)
      have ba1 := (cell_of_heap hk 1).trans (show _ = some (.int .i64 (j)) from rfl)
      have bas := (Array.getElem?_eq_some_iff.1 hk).1
      clear hk
      have hk := Hd.nthk 4 H.out rfl
      have bb0 := (cell_of_heap hk 0).trans (show _ = some (.int .i64 (d)) from rfl)
      have bb1 := (cell_of_heap hk 1).trans (show _ = some (.int .i64 (j)) from rfl)
      have bbs := (Array.getElem?_eq_some_iff.1 hk).1
      clear hk
      go_wp2_with fail
      refine (seal15_calls d j Q2.out H.out).mono ?_
      rintro e w5 ⟨rfl, h1⟩
      clear H ba0 ba1 bas bb0 bb1 bbs
      have H := hid h1
      clear h1
      have hk := Hd.nthk 3 H.out rfl
      have ba0 := (cell_of_heap hk 0).trans (show _ = some (.int .i64 (c)) from rfl)
      have ba1 := (cell_of_heap hk 1).trans (show _ = some (.int .i64 (j)) from rfl)
      have bas := (Array.getElem?_eq_some_iff.1 hk).1
      clear hk
      have hk := Hd.nthk 4 H.out rfl
      have bb0 := (cell_of_heap hk 0).trans (show _ = some (.int .i64 (d)) from rfl)
      have bb1 := (cell_of_heap hk 1).trans (show _ = some (.int .i64 (j)) from rfl)
      have bbs := (Array.getElem?_eq_some_iff.1 hk).1
      clear hk
      go_wp2_with fail
      refine (next15_calls c j Q3.out H.out).mono ?_
      rintro e w6 ⟨rfl, h1⟩
      clear H ba0 ba1 bas bb0 bb1 bbs
      have H := hid h1
      clear h1
      have hk := Hd.nthk 3 H.out rfl
      have ba0 := (cell_of_heap hk 0).trans (show _ = some (.int .i64 (c)) from rfl)
      have ba1 := (cell_of_heap hk 1).trans (show _ = some (.int .i64 (j)) from rfl)
      have bas := (Array.getElem?_eq_some_iff.1 hk).1
      clear hk
      have hk := Hd.nthk 4 H.out rfl
      have bb0 := (cell_of_heap hk 0).trans (show _ = some (.int .i64 (d)) from rfl)
      have bb1 := (cell_of_heap hk 1).trans (show _ = some (.int .i64 (j)) from rfl)
      have bbs := (Array.getElem?_eq_some_iff.1 hk).1
      clear hk
      go_wp2_with fail
      refine (next15_calls d j Q4.out H.out.bx).mono ?_
      rintro e w7 ⟨rfl, h1⟩
      clear H ba0 ba1 bas bb0 bb1 bbs
      have H := hid h1
      clear h1
      clear Q1 Q2 Q3 Q4
      have hk := Hd.nthk 1 H.out rfl
      have bc0 := (cell_of_heap hk 0).trans (show _ = some (.int .i64 (u)) from rfl)
      have bc1 := (cell_of_heap hk 1).trans (show _ = some (.int .i64 (j + 1)) from rfl)
      have bcs := (Array.getElem?_eq_some_iff.1 hk).1
      clear hk
      go_wp2_with fail
      have HB := hid (H.out.bx (o := .cells #[.int .i64 v, .int .i64 ((j : Int) + 1)] 32 (0, 0)))
      clear H bc0 bc1 bcs
      obtain ⟨w8, hw8⟩ : ∃ w8, w7.alloc (.cells #[.int .i64 v, .int .i64 ((j : Int) + 1)] 32 (0, 0)) = w8 := ⟨_, rfl⟩
      rw [hw8] at HB ⊢
      clear hw8
      obtain ⟨_, _, ek, lk, mk, IK⟩ := (HB.out.front 3 rfl).row_is
      simp only [Value.slice.injEq, true_and] at ek
      obtain ⟨rfl, rfl⟩ := ek
      obtain ⟨_, _, ec, lc, mc, IC⟩ := (HB.out.front 4 rfl).row_is
      simp only [Value.slice.injEq, true_and] at ec
      obtain ⟨rfl, rfl⟩ := ec
      have LK := hid lk
      have LC := hid lc
      have HIK := hid IK
      have HIC := hid IC
      clear lk lc IK IC mk mc hB1 hB2 hB3 hBB
      have hk := Hd.nthk 2 HB.out rfl
      have bc0 := (cell_of_heap hk 0).trans (show _ = some (.int .i64 (u)) from rfl)
      have bc1 := (cell_of_heap hk 1).trans (show _ = some (.int .i64 (j + 1)) from rfl)
      have bcs := (Array.getElem?_eq_some_iff.1 hk).1
      clear hk
      have hk := Hd.nthk 1 HB.out rfl
      have bd0 := (cell_of_heap hk 0).trans (show _ = some (.int .i64 (v)) from rfl)
      have bd1 := (cell_of_heap hk 1).trans (show _ = some (.int .i64 (j + 1)) from rfl)
      have bds := (Array.getElem?_eq_some_iff.1 hk).1
      clear hk
      refine (has15_no K1.out HIK.out LK.out (by have := hnk.out; have := hnc.out; omega)).mono ?_
      rintro e w' ⟨rfl, rfl⟩
      go_wp2_with fail
      refine (has15_no K2.out HIK.out LK.out (by have := hnk.out; have := hnc.out; omega)).mono ?_
      rintro e w' ⟨rfl, rfl⟩
      go_wp2_with fail
      refine (has15_no K3.out HIC.out LC.out (by have := hnk.out; have := hnc.out; omega)).mono ?_
      rintro e w' ⟨rfl, rfl⟩
      go_wp2_with fail
      refine (has15_no K4.out HIC.out LC.out (by have := hnk.out; have := hnc.out; omega)).mono ?_
      rintro e w' ⟨rfl, rfl⟩
      go_wp2_with fail
      refine (has15_no K5.out HIC.out LC.out (by have := hnk.out; have := hnc.out; omega)).mono ?_
      rintro e w' ⟨rfl, rfl⟩
      go_wp2_with fail
      refine (has15_no K6.out HIK.out LK.out (by have := hnk.out; have := hnc.out; omega)).mono ?_
      rintro e w' ⟨rfl, rfl⟩
      go_wp2_with fail
      refine (has15_no K7.out HIK.out LK.out (by have := hnk.out; omega)).mono ?_
      rintro e w' ⟨rfl, rfl⟩
      clear K1 K2 K3 K4 K5 K6 K7 HIK HIC
      obtain ⟨i0, hi0, hz0, hs0, hy0⟩ := info_int
      have Hi0 := hid hi0
      have Hz0 := hid hz0
      have Hs0 := hid hs0
      have Hy0 := hid hy0
      clear hi0 hz0 hs0 hy0
      have HA := hid (((HB.out.front 3 rfl).al (o := .cells #[.int .i64 a', .int .i64 b'] 3 (0, 0))))
      go_wp2_with (at_builtin; refine append_ints (k := .i64) (zs := ks) (ys := [a', b']) Try.underlying33 Hi0.out Hz0.out Hs0.out Hy0.out (by decide) rfl (.tmp 208) (.tmp 211) rfl (by simp) HA.out (two_cells w8 a' b') (by rfl) (by rfl) (by have := hnk.out; have := hnc.out; simp only [List.length_cons, List.length_nil]; omega) ?_; intro g5 c5 w9 hq; simp only [List.length_cons, List.length_nil, Nat.reduceAdd] at hq; clear bc0 bc1 bcs bd0 bd1 bds; have H := hid hq; clear hq HA HB; have hk := Hd.nthk 3 H.out rfl; have bc0 := (cell_of_heap hk 0).trans (show _ = some (.int .i64 (u)) from rfl); have bc1 := (cell_of_heap hk 1).trans (show _ = some (.int .i64 (j + 1)) from rfl); have bcs := (Array.getElem?_eq_some_iff.1 hk).1; clear hk; have hk := Hd.nthk 2 H.out rfl; have bd0 := (cell_of_heap hk 0).trans (show _ = some (.int .i64 (v)) from rfl); have bd1 := (cell_of_heap hk 1).trans (show _ = some (.int .i64 (j + 1)) from rfl); have bds := (Array.getElem?_eq_some_iff.1 hk).1; clear hk; have HA := hid (((H.out.front 4 rfl).al (o := .cells #[.int .i64 u, .int .i64 v] 3 (0, 0)))); clear H; go_wp2_with (at_builtin; refine append_ints (k := .i64) (zs := cs) (ys := [u, v]) Try.underlying33 Hi0.out Hz0.out Hs0.out Hy0.out (by decide) rfl (.tmp 213) (.tmp 218) rfl (by simp) HA.out (two_cells w9 u v) (by rfl) (by rfl) (by have := hnk.out; have := hnc.out; simp only [List.length_cons, List.length_nil]; omega) ?_; intro g6 c6 w10 hq; simp only [List.length_cons, List.length_nil, Nat.reduceAdd] at hq; clear bc0 bc1 bcs bd0 bd1 bds; have H := hid hq; clear hq HA; have hk := Hd.nthk 4 H.out rfl; have bc0 := (cell_of_heap hk 0).trans (show _ = some (.int .i64 (u)) from rfl); have bc1 := (cell_of_heap hk 1).trans (show _ = some (.int .i64 (j + 1)) from rfl); have bcs := (Array.getElem?_eq_some_iff.1 hk).1; clear hk; have hk := Hd.nthk 3 H.out rfl; have bd0 := (cell_of_heap hk 0).trans (show _ = some (.int .i64 (v)) from rfl); have bd1 := (cell_of_heap hk 1).trans (show _ = some (.int .i64 (j + 1)) from rfl); have bds := (Array.getElem?_eq_some_iff.1 hk).1; clear hk; have hk := Hd.nthk 5 H.out rfl; have ba0 := (cell_of_heap hk 0).trans (show _ = some (.int .i64 (c)) from rfl); have ba1 := (cell_of_heap hk 1).trans (show _ = some (.int .i64 (j)) from rfl); have bas := (Array.getElem?_eq_some_iff.1 hk).1; have baf := frozen_of_heap hk; clear hk; have hk := Hd.nthk 6 H.out rfl; have bb0 := (cell_of_heap hk 0).trans (show _ = some (.int .i64 (d)) from rfl); have bb1 := (cell_of_heap hk 1).trans (show _ = some (.int .i64 (j)) from rfl); have bbs := (Array.getElem?_eq_some_iff.1 hk).1; have bbf := frozen_of_heap hk; clear hk; have hne5 := blks_ne (H.out.drop.drop.drop.drop.drop); have hne6 := blks_ne (H.out.drop.drop.drop.front 2 rfl); have hne7 : ¬ w7.heap.size = p13 := fun e => hne6 e.symm; have hne8 : ¬ p13 + 1 = p13 := by omega))
      go_roundw
      case rel =>
        refine ⟨j + 1, (by have := HLT.out; omega), by go_num, _, _, _, ks ++ [a', b'], _, _, _, cs ++ [u, v], u, v, L4', rfl, rfl, HST, hid (by have := hnk.out; omega), hid (by have := hnc.out; omega), HLN, hid ?_⟩
        rw [show ((j + 1 : Nat) : Int) = (j : Int) + 1 by omega]
        have h9 := ((((((H.out.front 5 rfl).set 0 (.int .i64 u)).set 1 (.int .i64 (j + 1))).front 6 rfl).set 0 (.int .i64 v)).set 1 (.int .i64 (j + 1)))
        -- B14 B13 RC RK Sto B24 B22
        exact ((((((h9.front 1 rfl).front 2 rfl).front 3 rfl).front 4 rfl).front 6 rfl).front 6 rfl).drop.drop
      case measure => have := HLT.out; simp [intOf]; omega
    · have hd1 : decide ((j : Int) < 1 + (N : Int)) = false := by simp; omega
      go_wp2_with fail
      refine (fixed15_calls H.out).mono ?_
      rintro e w9 ⟨rfl, h1⟩
      clear H
      have H := hid h1
      clear h1
      go_wp2_with fail
      go_ret
      exact ⟨rfl, H.out.below⟩
end Go.Proofs.Ytpcfmafokkffgaa
