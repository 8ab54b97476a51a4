/-
  SkipDoes returns true, and writes nothing that was there. For every input.
-/
import Derived.Test.YtbaliaodioflfaaSkipR
import Derived.Test.YtbaliaodioflfaaArgsW
import Derived.Test.YtbaliaodioflfaaSkipT
import Derived.Deep.RegionHeld3
namespace Go.Proofs.Ytbaliaodioflfaa
open Go.RowKit

set_option maxRecDepth 100000 in
set_option maxHeartbeats 64000000 in
theorem skipDoes_walk (a0 : Option Addr) (len0 cap0 : Nat) (z0 : List (List Int)) (a1 : Option Addr) (len1 cap1 : Nat) (z1 : List (List Int)) (W : World) (e0 : len0 = z0.length) (m0 : len0 ≤ maxLen) (i0 : RowsIn 3 .i64 W a0 z0) (e1 : len1 = z1.length) (m1 : len1 ≤ maxLen) (i1 : RowsIn 2 .u64 W a1 z1) :
    Calls Try.prog 16 #[.slice a0 len0 cap0, .slice a1 len1 cap1] W fun e w' => e = .returned (.bool true) ∧ Below W.heap.size W w' := by
  have E0 := hid e0
  have E1 := hid e1
  have I0 := hid i0
  have I1 := hid i1
  have hm0 : len0 ≤ 9223372036854775807 := by unfold maxLen at m0; exact m0
  have hm1 : len1 ≤ 9223372036854775807 := by unfold maxLen at m1; exact m1
  have mixed : Try.prog.follows .mixedOrders = true := by kernel_rfl
  clear e0 e1 i0 i1 m0 m1
  have H0 := hid ((Hd.refl W).newCa (E := 98) |>.addCaNil |>.boxk (o := .cells #[.slice none 0 0] 85 (0, 0)) (W.heap.size + 1) (by simp))
  replace H0 := hid ((H0.out.front 1 rfl).front 2 rfl)
  go_enter Try.func16, Try.ntmps16
  go_wp2_with fail
  go_loopw [6, 7] (fun r i wr => ∃ (j : Nat) (u v : Value) (es : List En), j ≤ len0 ∧ j ≤ 40 ∧ i = .int .i64 j ∧ r = u ∧ Hid (Rises es) ∧ es.length ≤ 4 ∧ Hid (Hd W wr [CaR u es, CaR v es, Blk (W.heap.size + 1) (.cells #[v] 85 (0, 0))])) (fun _ i _ => len0 - (intOf i).toNat)
  case atStart =>
    exact ⟨0, .slice (some ⟨W.heap.size, 0, none⟩) 0 0, .slice none 0 0, [], Nat.zero_le _, Nat.zero_le _, rfl, rfl, hid List.Pairwise.nil, Nat.zero_le _, H0⟩
  case round =>
    clear H0
    obtain ⟨j, u, v, es, hj, hj40, rfl, rfl, HR, hes, H⟩ := hrel
    obtain ⟨wo, hwo⟩ : ∃ wo : World, wo = wr := ⟨_, rfl⟩
    rw [← hwo] at H ⊢
    clear hwo wr
    obtain ⟨au, cu, rfl⟩ := H.out.ca_form
    obtain ⟨av, cv, rfl⟩ := H.out.swap.ca_form
    have hk := Hd.nthk 2 H.out rfl
    have c0 := (cell_of_heap hk 0).trans (show _ = some (.slice av es.length cv) from rfl)
    have cs := (Array.getElem?_eq_some_iff.1 hk).1
    clear hk
    have cn1 : ¬ (W.heap.size = wo.heap.size) := by omega
    have cn2 : ¬ (W.heap.size + 1 = wo.heap.size) := by omega
    have cl1 : W.heap.size < wo.heap.size := by omega
    have zj0 : (0 : Int) ≤ (j : Int) := by omega
    by_cases hgo : j < len0 ∧ j < 40
    · obtain ⟨h1, h2⟩ := hgo
      have d1 : decide ((j : Int) < (len0 : Int)) = true := by simp; omega
      have d1' : decide (j < len0) = true := by simp; omega
      have d2 : decide ((j : Int) < 40) = true := by simp; omega
      have d2' : decide (j < 40) = true := by simp; omega
      obtain ⟨z, hz⟩ : ∃ z, z0[j]? = some z := ⟨z0[j]'(by rw [← E0.out]; exact h1), List.getElem?_eq_getElem _⟩
      obtain ⟨hzl, _, g, og, rfl, hzc⟩ := I0.out.later H.out.below j z hz
      obtain ⟨k0, k1, k2, rfl⟩ : ∃ k0 k1 k2, z = [k0, k1, k2] := by
        match z, hzl with
        | [a, b, c], _ => exact ⟨a, b, c, rfl⟩
      have x0 := hzc 0 _ rfl
      have x1 := hzc 1 _ rfl
      have x2 := hzc 2 _ rfl
      rw [Nat.add_zero] at x0
      have zj1 : (j : Int) < (len0 : Int) := by omega
      have hand := i64_and3' k0
      clear hz hzc hzl
      by_cases h3 : j < len1
      · have d3 : decide ((j : Int) < (len1 : Int)) = true := by simp; omega
        have d3' : decide (j < len1) = true := by simp; omega
        obtain ⟨q, hq⟩ : ∃ q, z1[j]? = some q := ⟨z1[j]'(by rw [← E1.out]; exact h3), List.getElem?_eq_getElem _⟩
        obtain ⟨hql, _, g1, o1, rfl, hqc⟩ := I1.out.later H.out.below j q hq
        obtain ⟨qx, qy, rfl⟩ : ∃ x y, q = [x, y] := by
          match q, hql with
          | [a, b], _ => exact ⟨a, b, rfl⟩
        have y0 := hqc 0 _ rfl
        have y1 := hqc 1 _ rfl
        have ylt := World.block_lt_of_cell? _ _ y1
        rw [Nat.add_zero] at y0
        have zj2 : (j : Int) < (len1 : Int) := by omega
        clear hq hqc hql

        by_cases hk : k0 % 4 = 0
        · rw [hk] at hand
          go_wp2_with fail
          have H1 := hid ((H.out.boxk (o := .cells #[.int .i64 k0, .int .i64 k1, .int .i64 k2] 87 (0, 0)) wo.heap.size rfl).boxk (o := .cells #[.int .i64 k1, .int .i64 k2, .int .u64 qx, .int .u64 qy] 91 (0, 0)) (wo.heap.size + 1) (by simp))
          obtain ⟨E2, hE2⟩ : ∃ E2, kDrop es k1 = E2 := ⟨_, rfl⟩
          obtain ⟨hr2, he4, hw2⟩ := rises_drop HR.out hes hE2
          have HR2 := hid hr2
          have HE2 := hid hE2
          have HW2 := hid hw2
          clear hE2 hr2 hw2
          refine (drop16_is k1 HE2.out HR.out (by omega) (H1.out.front 3 rfl).ca H1.out).mono ?_
          rintro e w2 ⟨adD, capD, rfl, hd⟩
          clear H H1 c0 cs x0 x1 x2 y0 y1
          have H := hid hd
          clear hd
          have hk := Hd.nthk 5 H.out rfl
          have c0 := (cell_of_heap hk 0).trans rfl
          have cs := (Array.getElem?_eq_some_iff.1 hk).1
          have cf := frozen_of_heap hk
          clear hk
          have hk := Hd.nthk 2 H.out rfl
          have t80 := (cell_of_heap hk 0).trans (show _ = some (.int .i64 k0) from rfl)
          have t81 := (cell_of_heap hk 1).trans (show _ = some (.int .i64 k1) from rfl)
          have t82 := (cell_of_heap hk 2).trans (show _ = some (.int .i64 k2) from rfl)
          have t8s := (Array.getElem?_eq_some_iff.1 hk).1
          clear hk
          go_wp2_with fail
          have H2 := hid ((H.out.front 5 rfl).set 0 (.slice adD E2.length capD))
          refine (rdrop16_is k1 HW2.out (by omega) (H2.out.front 4 rfl).la H2.out).mono ?_
          rintro e w3 ⟨adR, capR, rfl, hd⟩
          clear H H2 c0 cs cf t80 t81 t82 t8s
          have H := hid hd
          clear hd
          have hk := Hd.nthk 1 H.out rfl
          have c0 := (cell_of_heap hk 0).trans rfl
          have cs := (Array.getElem?_eq_some_iff.1 hk).1
          clear hk
          have hk := Hd.nthk 4 H.out rfl
          have t80 := (cell_of_heap hk 0).trans (show _ = some (.int .i64 k0) from rfl)
          have t81 := (cell_of_heap hk 1).trans (show _ = some (.int .i64 k1) from rfl)
          have t82 := (cell_of_heap hk 2).trans (show _ = some (.int .i64 k2) from rfl)
          have t8s := (Array.getElem?_eq_some_iff.1 hk).1
          clear hk
          go_wp2_with fail
          obtain ⟨⟨⟨pa, pk, px, py⟩, pb⟩, hG⟩ : ∃ r, kGet E2 k2 = r := ⟨_, rfl⟩
          have HG := hid hG
          have HG2 := hid ((kGet_eq HR2.out k2).symm.trans hG)
          clear hG
          refine (get16_is k2 HG.out HR2.out (by omega) (H.out.front 2 rfl).ca H.out).mono ?_
          rintro e w5 ⟨rfl, hd⟩
          clear H c0 cs t80 t81 t82 t8s
          have H := hid hd
          clear hd
          have hk := Hd.nthk 1 H.out rfl
          have c0 := (cell_of_heap hk 0).trans rfl
          have cs := (Array.getElem?_eq_some_iff.1 hk).1
          clear hk
          have hk := Hd.nthk 4 H.out rfl
          have t80 := (cell_of_heap hk 0).trans (show _ = some (.int .i64 k0) from rfl)
          have t81 := (cell_of_heap hk 1).trans (show _ = some (.int .i64 k1) from rfl)
          have t82 := (cell_of_heap hk 2).trans (show _ = some (.int .i64 k2) from rfl)
          have t8s := (Array.getElem?_eq_some_iff.1 hk).1
          clear hk
          go_wp2_with fail
          have H2 := hid (H.out.boxk (o := .cells #[.int .i64 pa, .int .i64 pk, .int .u64 px, .int .u64 py] 91 (0, 0)) w5.heap.size rfl)
          refine (rget16_is k2 HG2.out (by omega) (H2.out.front 1 rfl).la H2.out).mono ?_
          rintro e w6 ⟨rfl, hd⟩
          clear H H2 c0 cs t80 t81 t82 t8s
          have H := hid hd
          clear hd
          go_wp2_with fail
          have H2 := hid (H.out.boxk (o := .cells #[.int .i64 pa, .int .i64 pk, .int .u64 px, .int .u64 py] 98 (0, 0)) w6.heap.size rfl)
          clear H
          obtain ⟨wz, hwz⟩ : ∃ wz, w6.alloc (.cells #[.int .i64 pa, .int .i64 pk, .int .u64 px, .int .u64 py] 98 (0, 0)) = wz := ⟨_, rfl⟩
          rw [hwz] at H2 ⊢
          clear hwz
          have kC0 := (cell_of_heap (Hd.nthk 3 H2.out rfl) 0).trans (show _ = some (.slice adD E2.length capD) from rfl)
          have kE0 := (cell_of_heap (Hd.nthk 1 H2.out rfl) 0).trans (show _ = some (.int .i64 pa) from rfl)
          have kE1 := (cell_of_heap (Hd.nthk 1 H2.out rfl) 1).trans (show _ = some (.int .i64 pk) from rfl)
          have kE2 := (cell_of_heap (Hd.nthk 1 H2.out rfl) 2).trans (show _ = some (.int .u64 px) from rfl)
          have kE3 := (cell_of_heap (Hd.nthk 1 H2.out rfl) 3).trans (show _ = some (.int .u64 py) from rfl)
          have kF0 := (cell_of_heap (Hd.nthk 0 H2.out rfl) 0).trans (show _ = some (.int .i64 pa) from rfl)
          have kF1 := (cell_of_heap (Hd.nthk 0 H2.out rfl) 1).trans (show _ = some (.int .i64 pk) from rfl)
          have kF2 := (cell_of_heap (Hd.nthk 0 H2.out rfl) 2).trans (show _ = some (.int .u64 px) from rfl)
          have kF3 := (cell_of_heap (Hd.nthk 0 H2.out rfl) 3).trans (show _ = some (.int .u64 py) from rfl)
          have HCd := hid (H2.out.front 4 rfl).ca
          have HLr := hid (H2.out.front 2 rfl).la
          have cf44 : ∀ args w, (callFunc 44 args).run Try.prog w = .ok (.enter 44 args) w := fun args w => by kernel_rfl
          have cf54 : ∀ args w, (callFunc 54 args).run Try.prog w = .ok (.enter 54 args) w := fun args w => by kernel_rfl
          have cf57 : ∀ args w, (callFunc 57 args).run Try.prog w = .ok (.enter 57 args) w := fun args w => by kernel_rfl
          have cf58 : ∀ args w, (callFunc 58 args).run Try.prog w = .ok (.enter 58 args) w := fun args w => by kernel_rfl
          have cf59 : ∀ args w, (callFunc 59 args).run Try.prog w = .ok (.enter 59 args) w := fun args w => by kernel_rfl
          have cf60 : ∀ args w, (callFunc 60 args).run Try.prog w = .ok (.enter 60 args) w := fun args w => by kernel_rfl
          refine wp_region_rel ([] :: [0] :: [] :: [1, 2] :: [3] :: [4] :: [5] :: [5, 6] :: [5] :: [5, 7, 8] :: [5, 9] :: [10] :: [11] :: [11] :: [11, 12, 13] :: [11, 14] :: [15] :: [16] :: [16, 17] :: [16] :: [16, 19] :: [16, 18, 20] :: [16, 21] :: [16, 22] :: []) (102 :: 103 :: 104 :: 105 :: 106 :: 107 :: 108 :: 109 :: 110 :: 111 :: 112 :: 113 :: 114 :: 115 :: 116 :: 117 :: 118 :: 119 :: 120 :: 121 :: 122 :: 123 :: 124 :: 125 :: []) (fun i v w => ((
              .is (.agg #[.slice adD E2.length capD]) ::
              .en E2 ::
              .en E2 ::
              .is (.bool true) ::
              .is (.bool false) ::
              .is (.bool false) ::
              .is (.agg #[.int .i64 pa, .int .i64 pk, .int .u64 px, .int .u64 py]) ::
              .is (.agg #[.int .i64 pa, .int .i64 pk, .int .u64 px, .int .u64 py]) ::
              .is (.agg #[.int .i64 pa, .int .i64 pk, .int .u64 px, .int .u64 py]) ::
              .is (.bool false) ::
              .is (.bool false) ::
              .is (.bool false) ::
              .is (.bool pb) ::
              .is (.bool pb) ::
              .is (.bool false) ::
              .is (.bool false) ::
              .is (.bool false) ::
              .is (.agg #[.slice adD E2.length capD]) ::
              .ints (kKeys E2) ::
              .en E2 ::
              .ints (kKeys E2) ::
              .is (.bool true) ::
              .is (.bool false) ::
              .is (.bool false) :: ([] : List Fact)).getD i .any).of v w) (by kernel_rfl) (by kernel_rfl) (fun d hd => Nat.lt_of_lt_of_eq (rel_lt (n := 127) (by decide) d hd) rfl) ?_ ?_ ?_ (fun t => decide (102 ≤ t) && decide (t ≤ 125)) (by decide) ?_
          · repeat (refine StepAll.cons (by first | exact trivial | exact fun v w h => h) ?_)
            exact trivial
          · intro i v w x h hb
            exact Fact.later h hb
          ·
            refine StepAll.cons ?_ ?_
            · intro a wx hn hr hb K hK
              have ec := evc a
              have e5 : a.eval (.tmp 5) = .pointer (some ⟨W.heap.size + 1, 0, none⟩) := (hr 5 (by decide)).trans rfl
              have c0 := bcl hb kC0
              exact rel_run (v := .agg #[.slice adD E2.length capD]) (by clear hn hr hK; generalize a.eval = ρ at *; simp [execOp, e5, c0, go_sem]) rfl (Below.refl _ _) hK
            refine StepAll.cons ?_ ?_
            · intro a wx hn hr hb K hK
              have ec := evc a
              have e102 : a.eval (.tmp 102) = .agg #[.slice adD E2.length capD] := hn 0 (by decide)
              have ef : a.eval (.func 58) = .func (.func 58) #[] #[] := rfl
              exact rel_call (by clear hn hr hK; generalize a.eval = ρ at *; simp [execOp, e102, cf58, ef, go_sem]) (refs_calls (HCd.out.later hb) (by omega)) hK
            refine StepAll.cons ?_ ?_
            · intro a wx hn hr hb K hK
              have ec := evc a
              have e6 : a.eval (.tmp 6) = .slice adR E2.length capR := (hr 6 (by decide)).trans rfl
              exact rel_run (v := .slice adR E2.length capR) (by clear hn hr hK; generalize a.eval = ρ at *; simp [execOp, e6, go_sem]) (HLr.out.later hb) (Below.refl _ _) hK
            refine StepAll.cons ?_ ?_
            · intro a wx hn hr hb K hK
              have ec := evc a
              obtain ⟨ad103, cp103, e103, i103, n103⟩ := (show LaAt wx (a.eval (.tmp 103)) E2 from hn 1 (by decide)).ex
              obtain ⟨ad104, cp104, e104, i104, n104⟩ := (show LaAt wx (a.eval (.tmp 104)) E2 from hn 2 (by decide)).ex
              have ef : a.eval (.func 57) = .func (.func 57) #[] #[] := rfl
              exact rel_call (by clear hn hr hK; generalize a.eval = ρ at *; simp [execOp, e103, e104, cf57, ef, go_sem]) ((rsame_calls (ca := cp103) (cb := cp104) i103 i104 rfl rfl (by omega) (by omega)).mono (fun e w2 h => ⟨.bool true, h.1.trans (by rw [show decide (E2 = E2) = true from decide_eq_true rfl]), rfl, h.2⟩)) hK
            refine StepAll.cons ?_ ?_
            · intro a wx hn hr hb K hK
              have ec := evc a
              have e105 : a.eval (.tmp 105) = .bool true := hn 3 (by decide)
              exact rel_run (v := .bool false) (by clear hn hr hK; generalize a.eval = ρ at *; simp [execOp, e105, go_sem]) rfl (Below.refl _ _) hK
            refine StepAll.cons ?_ ?_
            · intro a wx hn hr hb K hK
              have ec := evc a
              have e106 : a.eval (.tmp 106) = .bool false := hn 4 (by decide)
              exact rel_run (v := .bool false) (by clear hn hr hK; generalize a.eval = ρ at *; simp [execOp, e106, go_sem]) rfl (Below.refl _ _) hK
            refine StepAll.cons ?_ ?_
            · intro a wx hn hr hb K hK
              have ec := evc a
              have e16 : a.eval (.tmp 16) = .pointer (some ⟨w5.heap.size, 0, none⟩) := (hr 16 (by decide)).trans rfl
              have c0 := bcl hb kE0
              have c1 := bcl hb kE1
              have c2 := bcl hb kE2
              have c3 := bcl hb kE3
              exact rel_run (v := .agg #[.int .i64 pa, .int .i64 pk, .int .u64 px, .int .u64 py]) (by clear hn hr hK; generalize a.eval = ρ at *; simp [execOp, e16, c0, c1, c2, c3, go_sem]) rfl (Below.refl _ _) hK
            refine StepAll.cons ?_ ?_
            · intro a wx hn hr hb K hK
              have ec := evc a
              have e108 : a.eval (.tmp 108) = .agg #[.int .i64 pa, .int .i64 pk, .int .u64 px, .int .u64 py] := hn 6 (by decide)
              have ef : a.eval (.func 54) = .func (.func 54) #[] #[] := rfl
              exact rel_call (by clear hn hr hK; generalize a.eval = ρ at *; simp [execOp, e108, cf54, ef, go_sem]) ((one_calls pa pk px py wx).mono (fun e w2 h => ⟨_, h.1, rfl, h.2⟩)) hK
            refine StepAll.cons ?_ ?_
            · intro a wx hn hr hb K hK
              have ec := evc a
              have e18 : a.eval (.tmp 18) = .pointer (some ⟨w6.heap.size, 0, none⟩) := (hr 18 (by decide)).trans rfl
              have c0 := bcl hb kF0
              have c1 := bcl hb kF1
              have c2 := bcl hb kF2
              have c3 := bcl hb kF3
              exact rel_run (v := .agg #[.int .i64 pa, .int .i64 pk, .int .u64 px, .int .u64 py]) (by clear hn hr hK; generalize a.eval = ρ at *; simp [execOp, e18, c0, c1, c2, c3, go_sem]) rfl (Below.refl _ _) hK
            refine StepAll.cons ?_ ?_
            · intro a wx hn hr hb K hK
              have ec := evc a
              have e109 : a.eval (.tmp 109) = .agg #[.int .i64 pa, .int .i64 pk, .int .u64 px, .int .u64 py] := hn 7 (by decide)
              have e110 : a.eval (.tmp 110) = .agg #[.int .i64 pa, .int .i64 pk, .int .u64 px, .int .u64 py] := hn 8 (by decide)
              exact rel_run (v := .bool false) (by clear hn hr hK; generalize a.eval = ρ at *; simp [execOp, e109, e110, go_sem]) rfl (Below.refl _ _) hK
            refine StepAll.cons ?_ ?_
            · intro a wx hn hr hb K hK
              have ec := evc a
              have e107 : a.eval (.tmp 107) = .bool false := hn 5 (by decide)
              have e111 : a.eval (.tmp 111) = .bool false := hn 9 (by decide)
              exact rel_run (v := .bool false) (by clear hn hr hK; generalize a.eval = ρ at *; simp [execOp, e107, e111, go_sem]) rfl (Below.refl _ _) hK
            refine StepAll.cons ?_ ?_
            · intro a wx hn hr hb K hK
              have ec := evc a
              have e112 : a.eval (.tmp 112) = .bool false := hn 10 (by decide)
              exact rel_run (v := .bool false) (by clear hn hr hK; generalize a.eval = ρ at *; simp [execOp, e112, go_sem]) rfl (Below.refl _ _) hK
            refine StepAll.cons ?_ ?_
            · intro a wx hn hr hb K hK
              have ec := evc a
              have e17 : a.eval (.tmp 17) = .bool pb := (hr 17 (by decide)).trans rfl
              exact rel_run (v := .bool pb) (by clear hn hr hK; generalize a.eval = ρ at *; simp [execOp, e17, go_sem]) rfl (Below.refl _ _) hK
            refine StepAll.cons ?_ ?_
            · intro a wx hn hr hb K hK
              have ec := evc a
              have e19 : a.eval (.tmp 19) = .bool pb := (hr 19 (by decide)).trans rfl
              exact rel_run (v := .bool pb) (by clear hn hr hK; generalize a.eval = ρ at *; simp [execOp, e19, go_sem]) rfl (Below.refl _ _) hK
            refine StepAll.cons ?_ ?_
            · intro a wx hn hr hb K hK
              have ec := evc a
              have e114 : a.eval (.tmp 114) = .bool pb := hn 12 (by decide)
              have e115 : a.eval (.tmp 115) = .bool pb := hn 13 (by decide)
              exact rel_run (v := .bool false) (by clear hn hr hK; generalize a.eval = ρ at *; simp [execOp, e114, e115, go_sem]) rfl (Below.refl _ _) hK
            refine StepAll.cons ?_ ?_
            · intro a wx hn hr hb K hK
              have ec := evc a
              have e113 : a.eval (.tmp 113) = .bool false := hn 11 (by decide)
              have e116 : a.eval (.tmp 116) = .bool false := hn 14 (by decide)
              exact rel_run (v := .bool false) (by clear hn hr hK; generalize a.eval = ρ at *; simp [execOp, e113, e116, go_sem]) rfl (Below.refl _ _) hK
            refine StepAll.cons ?_ ?_
            · intro a wx hn hr hb K hK
              have ec := evc a
              have e117 : a.eval (.tmp 117) = .bool false := hn 15 (by decide)
              exact rel_run (v := .bool false) (by clear hn hr hK; generalize a.eval = ρ at *; simp [execOp, e117, go_sem]) rfl (Below.refl _ _) hK
            refine StepAll.cons ?_ ?_
            · intro a wx hn hr hb K hK
              have ec := evc a
              have e5 : a.eval (.tmp 5) = .pointer (some ⟨W.heap.size + 1, 0, none⟩) := (hr 5 (by decide)).trans rfl
              have c0 := bcl hb kC0
              exact rel_run (v := .agg #[.slice adD E2.length capD]) (by clear hn hr hK; generalize a.eval = ρ at *; simp [execOp, e5, c0, go_sem]) rfl (Below.refl _ _) hK
            refine StepAll.cons ?_ ?_
            · intro a wx hn hr hb K hK
              have ec := evc a
              have e119 : a.eval (.tmp 119) = .agg #[.slice adD E2.length capD] := hn 17 (by decide)
              have ef : a.eval (.func 59) = .func (.func 59) #[] #[] := rfl
              exact rel_call (by clear hn hr hK; generalize a.eval = ρ at *; simp [execOp, e119, cf59, ef, go_sem]) (keys_calls (HCd.out.later hb) (by omega)) hK
            refine StepAll.cons ?_ ?_
            · intro a wx hn hr hb K hK
              have ec := evc a
              have e6 : a.eval (.tmp 6) = .slice adR E2.length capR := (hr 6 (by decide)).trans rfl
              exact rel_run (v := .slice adR E2.length capR) (by clear hn hr hK; generalize a.eval = ρ at *; simp [execOp, e6, go_sem]) (HLr.out.later hb) (Below.refl _ _) hK
            refine StepAll.cons ?_ ?_
            · intro a wx hn hr hb K hK
              have ec := evc a
              obtain ⟨ad121, cp121, e121, i121, n121⟩ := (show LaAt wx (a.eval (.tmp 121)) E2 from hn 19 (by decide)).ex
              have ef : a.eval (.func 60) = .func (.func 60) #[] #[] := rfl
              exact rel_call (by clear hn hr hK; generalize a.eval = ρ at *; simp [execOp, e121, cf60, ef, go_sem]) (rkeys_calls ⟨ad121, cp121, rfl, i121, n121⟩ (by omega)) hK
            refine StepAll.cons ?_ ?_
            · intro a wx hn hr hb K hK
              have ec := evc a
              obtain ⟨ad120, cp120, e120, i120⟩ := (show NsAt wx (a.eval (.tmp 120)) (kKeys E2) from hn 18 (by decide)).ex
              obtain ⟨ad122, cp122, e122, i122⟩ := (show NsAt wx (a.eval (.tmp 122)) (kKeys E2) from hn 20 (by decide)).ex
              have ef : a.eval (.func 44) = .func (.func 44) #[] #[] := rfl
              exact rel_call (by clear hn hr hK; generalize a.eval = ρ at *; simp [execOp, e120, e122, cf44, ef, go_sem]) ((same_calls (c1 := cp120) (c2 := cp122) i120 i122 rfl rfl (by rw [kKeys, List.length_map]; omega) (by rw [kKeys, List.length_map]; omega)).mono (fun e w2 h => ⟨.bool true, h.1.trans (by rw [show decide (kKeys E2 = kKeys E2) = true from decide_eq_true rfl]), rfl, h.2⟩)) hK
            refine StepAll.cons ?_ ?_
            · intro a wx hn hr hb K hK
              have ec := evc a
              have e123 : a.eval (.tmp 123) = .bool true := hn 21 (by decide)
              exact rel_run (v := .bool false) (by clear hn hr hK; generalize a.eval = ρ at *; simp [execOp, e123, go_sem]) rfl (Below.refl _ _) hK
            refine StepAll.cons ?_ ?_
            · intro a wx hn hr hb K hK
              have ec := evc a
              have e118 : a.eval (.tmp 118) = .bool false := hn 16 (by decide)
              have e124 : a.eval (.tmp 124) = .bool false := hn 22 (by decide)
              exact rel_run (v := .bool false) (by clear hn hr hK; generalize a.eval = ρ at *; simp [execOp, e118, e124, go_sem]) rfl (Below.refl _ _) hK
            exact trivial
          intro f w9 hv hb
          have er : f 125 = .bool false := hv 23 (by decide)
          clear hv kC0 kE0 kF0 kE1 kF1 kE2 kF2 kE3 kF3
          simp only [patchG, Nat.reduceAdd, Nat.reduceLeDiff, decide_true, decide_false, Bool.and_true, Bool.and_false, cond_true, cond_false, er]
          have H := hid (H2.out.still hb)
          clear H2 hb HCd HLr
          go_wp2_with fail
          go_roundw
          case rel => exact ⟨j + 1, .slice adR E2.length capR, .slice adD E2.length capD, E2, by omega, by omega, by go_num, rfl, HR2, by omega, hid (Hd.dropEnd (Rs := [CaR (.slice adR E2.length capR) E2, CaR (.slice adD E2.length capD) E2, Blk (W.heap.size + 1) (.cells #[.slice adD E2.length capD] 85 (0, 0))]) (((H.out.front 3 rfl).front 4 rfl).front 4 rfl))⟩
          case measure => simp [intOf]; omega
        · have hkf : decide (k0 % 4 = 0) = false := by simpa using hk
          have hkf2 : (k0 % 4 == 0) = false := by simpa using hk
          go_wp2_with fail
          have H1 := hid ((H.out.boxk (o := .cells #[.int .i64 k0, .int .i64 k1, .int .i64 k2] 87 (0, 0)) wo.heap.size rfl).boxk (o := .cells #[.int .i64 k1, .int .i64 k2, .int .u64 qx, .int .u64 qy] 91 (0, 0)) (wo.heap.size + 1) (by simp))
          obtain ⟨⟨E2, ⟨ga, gk, gx, gy⟩, b⟩, hE2⟩ : ∃ r, kPut es ⟨k1, k2, qx, qy⟩ = r := ⟨_, rfl⟩
          obtain ⟨hr2, he4, hw2⟩ := rises_put HR.out hes hE2
          have HR2 := hid hr2
          have HE2 := hid hE2
          have HW2 := hid hw2
          clear hE2 hr2 hw2
          refine (put16_is k1 k2 qx qy HE2.out HR.out (by omega) (H1.out.front 3 rfl).ca H1.out).mono ?_
          rintro e w2 ⟨adD, capD, rfl, hd⟩
          clear H H1 c0 cs x0 x1 x2 y0 y1
          have H := hid hd
          clear hd
          have hk := Hd.nthk 1 H.out rfl
          have t90 := (cell_of_heap hk 0).trans (show _ = some (.int .i64 k1) from rfl)
          have t91 := (cell_of_heap hk 1).trans (show _ = some (.int .i64 k2) from rfl)
          have t92 := (cell_of_heap hk 2).trans (show _ = some (.int .u64 qx) from rfl)
          have t93 := (cell_of_heap hk 3).trans (show _ = some (.int .u64 qy) from rfl)
          have t9s := (Array.getElem?_eq_some_iff.1 hk).1
          clear hk
          have zw1 : wo.heap.size < w2.heap.size := by omega
          have zw2 : ¬ (wo.heap.size = w2.heap.size) := by omega
          have zw3 : ¬ (wo.heap.size + 1 = w2.heap.size) := by omega
          go_wp2_with fail
          have H2 := hid ((H.out.boxk (o := .cells #[.slice adD E2.length capD] 85 (0, 0)) w2.heap.size rfl).boxk (o := .cells #[.int .i64 ga, .int .i64 gk, .int .u64 gx, .int .u64 gy] 91 (0, 0)) (w2.heap.size + 1) (by simp))
          refine (one_calls k1 k2 qx qy _).mono ?_
          rintro e w3 ⟨rfl, hb⟩
          have H3 := hid (H2.out.still hb)
          clear H H2 hb t90 t91 t92 t93 t9s
          have H := H3
          clear H3
          go_wp2_with fail
          refine (rput16_is k1 k2 qx qy HW2.out HR.out (by omega) (H.out.front 5 rfl).la H.out).mono ?_
          rintro e w4 ⟨adR, capR, rfl, hd⟩
          clear H
          have H := hid hd
          clear hd
          go_wp2_with fail
          have H2 := hid (H.out.boxk (o := .cells #[.int .i64 ga, .int .i64 gk, .int .u64 gx, .int .u64 gy] 98 (0, 0)) w4.heap.size rfl)
          clear H
          obtain ⟨wz, hwz⟩ : ∃ wz, w4.alloc (.cells #[.int .i64 ga, .int .i64 gk, .int .u64 gx, .int .u64 gy] 98 (0, 0)) = wz := ⟨_, rfl⟩
          rw [hwz] at H2 ⊢
          clear hwz
          have kE0 := (cell_of_heap (Hd.nthk 2 H2.out rfl) 0).trans (show _ = some (.int .i64 ga) from rfl)
          have kE1 := (cell_of_heap (Hd.nthk 2 H2.out rfl) 1).trans (show _ = some (.int .i64 gk) from rfl)
          have kE2 := (cell_of_heap (Hd.nthk 2 H2.out rfl) 2).trans (show _ = some (.int .u64 gx) from rfl)
          have kE3 := (cell_of_heap (Hd.nthk 2 H2.out rfl) 3).trans (show _ = some (.int .u64 gy) from rfl)
          have kF0 := (cell_of_heap (Hd.nthk 0 H2.out rfl) 0).trans (show _ = some (.int .i64 ga) from rfl)
          have kF1 := (cell_of_heap (Hd.nthk 0 H2.out rfl) 1).trans (show _ = some (.int .i64 gk) from rfl)
          have kF2 := (cell_of_heap (Hd.nthk 0 H2.out rfl) 2).trans (show _ = some (.int .u64 gx) from rfl)
          have kF3 := (cell_of_heap (Hd.nthk 0 H2.out rfl) 3).trans (show _ = some (.int .u64 gy) from rfl)
          have cf54 : ∀ args w, (callFunc 54 args).run Try.prog w = .ok (.enter 54 args) w := fun args w => by kernel_rfl
          refine wp_region_rel ([] :: [0] :: [] :: [1, 2] :: [3] :: [4] :: [4] :: [4, 5, 6] :: [4, 7] :: []) (77 :: 78 :: 79 :: 80 :: 81 :: 82 :: 83 :: 84 :: 85 :: []) (fun i v w => ((
              .is (.agg #[.int .i64 ga, .int .i64 gk, .int .u64 gx, .int .u64 gy]) ::
              .is (.agg #[.int .i64 ga, .int .i64 gk, .int .u64 gx, .int .u64 gy]) ::
              .is (.agg #[.int .i64 ga, .int .i64 gk, .int .u64 gx, .int .u64 gy]) ::
              .is (.bool false) ::
              .is (.bool false) ::
              .is (.bool b) ::
              .is (.bool b) ::
              .is (.bool false) ::
              .is (.bool false) :: ([] : List Fact)).getD i .any).of v w) (by kernel_rfl) (by kernel_rfl) (fun d hd => Nat.lt_of_lt_of_eq (rel_lt (n := 127) (by decide) d hd) rfl) ?_ ?_ ?_ (fun t => decide (77 ≤ t) && decide (t ≤ 85)) (by decide) ?_
          · repeat (refine StepAll.cons (by first | exact trivial | exact fun v w h => h) ?_)
            exact trivial
          · intro i v w x h hb
            exact Fact.later h hb
          ·
            refine StepAll.cons ?_ ?_
            · intro a wx hn hr hb K hK
              have ec := evc a
              have e11 : a.eval (.tmp 11) = .pointer (some ⟨w2.heap.size + 1, 0, none⟩) := (hr 11 (by decide)).trans rfl
              have c0 := bcl hb kE0
              have c1 := bcl hb kE1
              have c2 := bcl hb kE2
              have c3 := bcl hb kE3
              exact rel_run (v := .agg #[.int .i64 ga, .int .i64 gk, .int .u64 gx, .int .u64 gy]) (by clear hn hr hK; generalize a.eval = ρ at *; simp [execOp, e11, c0, c1, c2, c3, go_sem]) rfl (Below.refl _ _) hK
            refine StepAll.cons ?_ ?_
            · intro a wx hn hr hb K hK
              have ec := evc a
              have e77 : a.eval (.tmp 77) = .agg #[.int .i64 ga, .int .i64 gk, .int .u64 gx, .int .u64 gy] := hn 0 (by decide)
              have ef : a.eval (.func 54) = .func (.func 54) #[] #[] := rfl
              exact rel_call (by clear hn hr hK; generalize a.eval = ρ at *; simp [execOp, e77, cf54, ef, go_sem]) ((one_calls ga gk gx gy wx).mono (fun e w2 h => ⟨_, h.1, rfl, h.2⟩)) hK
            refine StepAll.cons ?_ ?_
            · intro a wx hn hr hb K hK
              have ec := evc a
              have e14 : a.eval (.tmp 14) = .pointer (some ⟨w4.heap.size, 0, none⟩) := (hr 14 (by decide)).trans rfl
              have c0 := bcl hb kF0
              have c1 := bcl hb kF1
              have c2 := bcl hb kF2
              have c3 := bcl hb kF3
              exact rel_run (v := .agg #[.int .i64 ga, .int .i64 gk, .int .u64 gx, .int .u64 gy]) (by clear hn hr hK; generalize a.eval = ρ at *; simp [execOp, e14, c0, c1, c2, c3, go_sem]) rfl (Below.refl _ _) hK
            refine StepAll.cons ?_ ?_
            · intro a wx hn hr hb K hK
              have ec := evc a
              have e78 : a.eval (.tmp 78) = .agg #[.int .i64 ga, .int .i64 gk, .int .u64 gx, .int .u64 gy] := hn 1 (by decide)
              have e79 : a.eval (.tmp 79) = .agg #[.int .i64 ga, .int .i64 gk, .int .u64 gx, .int .u64 gy] := hn 2 (by decide)
              exact rel_run (v := .bool false) (by clear hn hr hK; generalize a.eval = ρ at *; simp [execOp, e78, e79, go_sem]) rfl (Below.refl _ _) hK
            refine StepAll.cons ?_ ?_
            · intro a wx hn hr hb K hK
              have ec := evc a
              have e80 : a.eval (.tmp 80) = .bool false := hn 3 (by decide)
              exact rel_run (v := .bool false) (by clear hn hr hK; generalize a.eval = ρ at *; simp [execOp, e80, go_sem]) rfl (Below.refl _ _) hK
            refine StepAll.cons ?_ ?_
            · intro a wx hn hr hb K hK
              have ec := evc a
              have e12 : a.eval (.tmp 12) = .bool b := (hr 12 (by decide)).trans rfl
              exact rel_run (v := .bool b) (by clear hn hr hK; generalize a.eval = ρ at *; simp [execOp, e12, go_sem]) rfl (Below.refl _ _) hK
            refine StepAll.cons ?_ ?_
            · intro a wx hn hr hb K hK
              have ec := evc a
              have e15 : a.eval (.tmp 15) = .bool b := (hr 15 (by decide)).trans rfl
              exact rel_run (v := .bool b) (by clear hn hr hK; generalize a.eval = ρ at *; simp [execOp, e15, go_sem]) rfl (Below.refl _ _) hK
            refine StepAll.cons ?_ ?_
            · intro a wx hn hr hb K hK
              have ec := evc a
              have e82 : a.eval (.tmp 82) = .bool b := hn 5 (by decide)
              have e83 : a.eval (.tmp 83) = .bool b := hn 6 (by decide)
              exact rel_run (v := .bool false) (by clear hn hr hK; generalize a.eval = ρ at *; simp [execOp, e82, e83, go_sem]) rfl (Below.refl _ _) hK
            refine StepAll.cons ?_ ?_
            · intro a wx hn hr hb K hK
              have ec := evc a
              have e81 : a.eval (.tmp 81) = .bool false := hn 4 (by decide)
              have e84 : a.eval (.tmp 84) = .bool false := hn 7 (by decide)
              exact rel_run (v := .bool false) (by clear hn hr hK; generalize a.eval = ρ at *; simp [execOp, e81, e84, go_sem]) rfl (Below.refl _ _) hK
            exact trivial
          intro f w9 hv hb
          have er : f 85 = .bool false := hv 8 (by decide)
          clear hv kE0 kF0 kE1 kF1 kE2 kF2 kE3 kF3
          simp only [patchG, Nat.reduceAdd, Nat.reduceLeDiff, decide_true, decide_false, Bool.and_true, Bool.and_false, cond_true, cond_false, er]
          have H := hid (H2.out.still hb)
          clear H2 hb er
          have hk := Hd.nthk 9 H.out rfl
          have c0 := (cell_of_heap hk 0).trans rfl
          have cs := (Array.getElem?_eq_some_iff.1 hk).1
          have cf := frozen_of_heap hk
          clear hk
          have hk := Hd.nthk 6 H.out rfl
          have t80 := (cell_of_heap hk 0).trans (show _ = some (.int .i64 k0) from rfl)
          have t81 := (cell_of_heap hk 1).trans (show _ = some (.int .i64 k1) from rfl)
          have t82 := (cell_of_heap hk 2).trans (show _ = some (.int .i64 k2) from rfl)
          have t8s := (Array.getElem?_eq_some_iff.1 hk).1
          clear hk
          have hk10 := (cell_of_heap (Hd.nthk 3 H.out rfl) 0).trans (show _ = some (.slice adD E2.length capD) from rfl)
          go_wp2_with fail
          have H2 := hid ((H.out.front 9 rfl).set 0 (.slice adD E2.length capD))
          clear H
          have H := H2
          clear H2
          obtain ⟨⟨⟨pa, pk, px, py⟩, pb⟩, hG⟩ : ∃ r, kGet E2 k2 = r := ⟨_, rfl⟩
          have HG := hid hG
          have HG2 := hid ((kGet_eq HR2.out k2).symm.trans hG)
          clear hG
          refine (get16_is k2 HG.out HR2.out (by omega) (H.out.front 5 rfl).ca H.out).mono ?_
          rintro e w5 ⟨rfl, hd⟩
          clear H c0 cs cf t80 t81 t82 t8s hk10
          have H := hid hd
          clear hd
          have hk := Hd.nthk 0 H.out rfl
          have c0 := (cell_of_heap hk 0).trans rfl
          have cs := (Array.getElem?_eq_some_iff.1 hk).1
          clear hk
          have hk := Hd.nthk 7 H.out rfl
          have t80 := (cell_of_heap hk 0).trans (show _ = some (.int .i64 k0) from rfl)
          have t81 := (cell_of_heap hk 1).trans (show _ = some (.int .i64 k1) from rfl)
          have t82 := (cell_of_heap hk 2).trans (show _ = some (.int .i64 k2) from rfl)
          have t8s := (Array.getElem?_eq_some_iff.1 hk).1
          clear hk
          go_wp2_with fail
          have H2 := hid (H.out.boxk (o := .cells #[.int .i64 pa, .int .i64 pk, .int .u64 px, .int .u64 py] 91 (0, 0)) w5.heap.size rfl)
          refine (rget16_is k2 HG2.out (by omega) (H2.out.front 3 rfl).la H2.out).mono ?_
          rintro e w6 ⟨rfl, hd⟩
          clear H H2 c0 cs t80 t81 t82 t8s
          have H := hid hd
          clear hd
          go_wp2_with fail
          have H2 := hid (H.out.boxk (o := .cells #[.int .i64 pa, .int .i64 pk, .int .u64 px, .int .u64 py] 98 (0, 0)) w6.heap.size rfl)
          clear H
          obtain ⟨wz, hwz⟩ : ∃ wz, w6.alloc (.cells #[.int .i64 pa, .int .i64 pk, .int .u64 px, .int .u64 py] 98 (0, 0)) = wz := ⟨_, rfl⟩
          rw [hwz] at H2 ⊢
          clear hwz
          have kC0 := (cell_of_heap (Hd.nthk 2 H2.out rfl) 0).trans (show _ = some (.slice adD E2.length capD) from rfl)
          have kE0 := (cell_of_heap (Hd.nthk 1 H2.out rfl) 0).trans (show _ = some (.int .i64 pa) from rfl)
          have kE1 := (cell_of_heap (Hd.nthk 1 H2.out rfl) 1).trans (show _ = some (.int .i64 pk) from rfl)
          have kE2 := (cell_of_heap (Hd.nthk 1 H2.out rfl) 2).trans (show _ = some (.int .u64 px) from rfl)
          have kE3 := (cell_of_heap (Hd.nthk 1 H2.out rfl) 3).trans (show _ = some (.int .u64 py) from rfl)
          have kF0 := (cell_of_heap (Hd.nthk 0 H2.out rfl) 0).trans (show _ = some (.int .i64 pa) from rfl)
          have kF1 := (cell_of_heap (Hd.nthk 0 H2.out rfl) 1).trans (show _ = some (.int .i64 pk) from rfl)
          have kF2 := (cell_of_heap (Hd.nthk 0 H2.out rfl) 2).trans (show _ = some (.int .u64 px) from rfl)
          have kF3 := (cell_of_heap (Hd.nthk 0 H2.out rfl) 3).trans (show _ = some (.int .u64 py) from rfl)
          have HCd := hid (H2.out.front 7 rfl).ca
          have HLr := hid (H2.out.front 4 rfl).la
          have cf44 : ∀ args w, (callFunc 44 args).run Try.prog w = .ok (.enter 44 args) w := fun args w => by kernel_rfl
          have cf54 : ∀ args w, (callFunc 54 args).run Try.prog w = .ok (.enter 54 args) w := fun args w => by kernel_rfl
          have cf57 : ∀ args w, (callFunc 57 args).run Try.prog w = .ok (.enter 57 args) w := fun args w => by kernel_rfl
          have cf58 : ∀ args w, (callFunc 58 args).run Try.prog w = .ok (.enter 58 args) w := fun args w => by kernel_rfl
          have cf59 : ∀ args w, (callFunc 59 args).run Try.prog w = .ok (.enter 59 args) w := fun args w => by kernel_rfl
          have cf60 : ∀ args w, (callFunc 60 args).run Try.prog w = .ok (.enter 60 args) w := fun args w => by kernel_rfl
          refine wp_region_rel ([] :: [0] :: [] :: [1, 2] :: [3] :: [4] :: [5] :: [5, 6] :: [5] :: [5, 7, 8] :: [5, 9] :: [10] :: [11] :: [11] :: [11, 12, 13] :: [11, 14] :: [15] :: [16] :: [16, 17] :: [16] :: [16, 19] :: [16, 18, 20] :: [16, 21] :: [16, 22] :: []) (102 :: 103 :: 104 :: 105 :: 106 :: 107 :: 108 :: 109 :: 110 :: 111 :: 112 :: 113 :: 114 :: 115 :: 116 :: 117 :: 118 :: 119 :: 120 :: 121 :: 122 :: 123 :: 124 :: 125 :: []) (fun i v w => ((
              .is (.agg #[.slice adD E2.length capD]) ::
              .en E2 ::
              .en E2 ::
              .is (.bool true) ::
              .is (.bool false) ::
              .is (.bool false) ::
              .is (.agg #[.int .i64 pa, .int .i64 pk, .int .u64 px, .int .u64 py]) ::
              .is (.agg #[.int .i64 pa, .int .i64 pk, .int .u64 px, .int .u64 py]) ::
              .is (.agg #[.int .i64 pa, .int .i64 pk, .int .u64 px, .int .u64 py]) ::
              .is (.bool false) ::
              .is (.bool false) ::
              .is (.bool false) ::
              .is (.bool pb) ::
              .is (.bool pb) ::
              .is (.bool false) ::
              .is (.bool false) ::
              .is (.bool false) ::
              .is (.agg #[.slice adD E2.length capD]) ::
              .ints (kKeys E2) ::
              .en E2 ::
              .ints (kKeys E2) ::
              .is (.bool true) ::
              .is (.bool false) ::
              .is (.bool false) :: ([] : List Fact)).getD i .any).of v w) (by kernel_rfl) (by kernel_rfl) (fun d hd => Nat.lt_of_lt_of_eq (rel_lt (n := 127) (by decide) d hd) rfl) ?_ ?_ ?_ (fun t => decide (102 ≤ t) && decide (t ≤ 125)) (by decide) ?_
          · repeat (refine StepAll.cons (by first | exact trivial | exact fun v w h => h) ?_)
            exact trivial
          · intro i v w x h hb
            exact Fact.later h hb
          ·
            refine StepAll.cons ?_ ?_
            · intro a wx hn hr hb K hK
              have ec := evc a
              have e5 : a.eval (.tmp 5) = .pointer (some ⟨W.heap.size + 1, 0, none⟩) := (hr 5 (by decide)).trans rfl
              have c0 := bcl hb kC0
              exact rel_run (v := .agg #[.slice adD E2.length capD]) (by clear hn hr hK; generalize a.eval = ρ at *; simp [execOp, e5, c0, go_sem]) rfl (Below.refl _ _) hK
            refine StepAll.cons ?_ ?_
            · intro a wx hn hr hb K hK
              have ec := evc a
              have e102 : a.eval (.tmp 102) = .agg #[.slice adD E2.length capD] := hn 0 (by decide)
              have ef : a.eval (.func 58) = .func (.func 58) #[] #[] := rfl
              exact rel_call (by clear hn hr hK; generalize a.eval = ρ at *; simp [execOp, e102, cf58, ef, go_sem]) (refs_calls (HCd.out.later hb) (by omega)) hK
            refine StepAll.cons ?_ ?_
            · intro a wx hn hr hb K hK
              have ec := evc a
              have e6 : a.eval (.tmp 6) = .slice adR E2.length capR := (hr 6 (by decide)).trans rfl
              exact rel_run (v := .slice adR E2.length capR) (by clear hn hr hK; generalize a.eval = ρ at *; simp [execOp, e6, go_sem]) (HLr.out.later hb) (Below.refl _ _) hK
            refine StepAll.cons ?_ ?_
            · intro a wx hn hr hb K hK
              have ec := evc a
              obtain ⟨ad103, cp103, e103, i103, n103⟩ := (show LaAt wx (a.eval (.tmp 103)) E2 from hn 1 (by decide)).ex
              obtain ⟨ad104, cp104, e104, i104, n104⟩ := (show LaAt wx (a.eval (.tmp 104)) E2 from hn 2 (by decide)).ex
              have ef : a.eval (.func 57) = .func (.func 57) #[] #[] := rfl
              exact rel_call (by clear hn hr hK; generalize a.eval = ρ at *; simp [execOp, e103, e104, cf57, ef, go_sem]) ((rsame_calls (ca := cp103) (cb := cp104) i103 i104 rfl rfl (by omega) (by omega)).mono (fun e w2 h => ⟨.bool true, h.1.trans (by rw [show decide (E2 = E2) = true from decide_eq_true rfl]), rfl, h.2⟩)) hK
            refine StepAll.cons ?_ ?_
            · intro a wx hn hr hb K hK
              have ec := evc a
              have e105 : a.eval (.tmp 105) = .bool true := hn 3 (by decide)
              exact rel_run (v := .bool false) (by clear hn hr hK; generalize a.eval = ρ at *; simp [execOp, e105, go_sem]) rfl (Below.refl _ _) hK
            refine StepAll.cons ?_ ?_
            · intro a wx hn hr hb K hK
              have ec := evc a
              have e106 : a.eval (.tmp 106) = .bool false := hn 4 (by decide)
              exact rel_run (v := .bool false) (by clear hn hr hK; generalize a.eval = ρ at *; simp [execOp, e106, go_sem]) rfl (Below.refl _ _) hK
            refine StepAll.cons ?_ ?_
            · intro a wx hn hr hb K hK
              have ec := evc a
              have e16 : a.eval (.tmp 16) = .pointer (some ⟨w5.heap.size, 0, none⟩) := (hr 16 (by decide)).trans rfl
              have c0 := bcl hb kE0
              have c1 := bcl hb kE1
              have c2 := bcl hb kE2
              have c3 := bcl hb kE3
              exact rel_run (v := .agg #[.int .i64 pa, .int .i64 pk, .int .u64 px, .int .u64 py]) (by clear hn hr hK; generalize a.eval = ρ at *; simp [execOp, e16, c0, c1, c2, c3, go_sem]) rfl (Below.refl _ _) hK
            refine StepAll.cons ?_ ?_
            · intro a wx hn hr hb K hK
              have ec := evc a
              have e108 : a.eval (.tmp 108) = .agg #[.int .i64 pa, .int .i64 pk, .int .u64 px, .int .u64 py] := hn 6 (by decide)
              have ef : a.eval (.func 54) = .func (.func 54) #[] #[] := rfl
              exact rel_call (by clear hn hr hK; generalize a.eval = ρ at *; simp [execOp, e108, cf54, ef, go_sem]) ((one_calls pa pk px py wx).mono (fun e w2 h => ⟨_, h.1, rfl, h.2⟩)) hK
            refine StepAll.cons ?_ ?_
            · intro a wx hn hr hb K hK
              have ec := evc a
              have e18 : a.eval (.tmp 18) = .pointer (some ⟨w6.heap.size, 0, none⟩) := (hr 18 (by decide)).trans rfl
              have c0 := bcl hb kF0
              have c1 := bcl hb kF1
              have c2 := bcl hb kF2
              have c3 := bcl hb kF3
              exact rel_run (v := .agg #[.int .i64 pa, .int .i64 pk, .int .u64 px, .int .u64 py]) (by clear hn hr hK; generalize a.eval = ρ at *; simp [execOp, e18, c0, c1, c2, c3, go_sem]) rfl (Below.refl _ _) hK
            refine StepAll.cons ?_ ?_
            · intro a wx hn hr hb K hK
              have ec := evc a
              have e109 : a.eval (.tmp 109) = .agg #[.int .i64 pa, .int .i64 pk, .int .u64 px, .int .u64 py] := hn 7 (by decide)
              have e110 : a.eval (.tmp 110) = .agg #[.int .i64 pa, .int .i64 pk, .int .u64 px, .int .u64 py] := hn 8 (by decide)
              exact rel_run (v := .bool false) (by clear hn hr hK; generalize a.eval = ρ at *; simp [execOp, e109, e110, go_sem]) rfl (Below.refl _ _) hK
            refine StepAll.cons ?_ ?_
            · intro a wx hn hr hb K hK
              have ec := evc a
              have e107 : a.eval (.tmp 107) = .bool false := hn 5 (by decide)
              have e111 : a.eval (.tmp 111) = .bool false := hn 9 (by decide)
              exact rel_run (v := .bool false) (by clear hn hr hK; generalize a.eval = ρ at *; simp [execOp, e107, e111, go_sem]) rfl (Below.refl _ _) hK
            refine StepAll.cons ?_ ?_
            · intro a wx hn hr hb K hK
              have ec := evc a
              have e112 : a.eval (.tmp 112) = .bool false := hn 10 (by decide)
              exact rel_run (v := .bool false) (by clear hn hr hK; generalize a.eval = ρ at *; simp [execOp, e112, go_sem]) rfl (Below.refl _ _) hK
            refine StepAll.cons ?_ ?_
            · intro a wx hn hr hb K hK
              have ec := evc a
              have e17 : a.eval (.tmp 17) = .bool pb := (hr 17 (by decide)).trans rfl
              exact rel_run (v := .bool pb) (by clear hn hr hK; generalize a.eval = ρ at *; simp [execOp, e17, go_sem]) rfl (Below.refl _ _) hK
            refine StepAll.cons ?_ ?_
            · intro a wx hn hr hb K hK
              have ec := evc a
              have e19 : a.eval (.tmp 19) = .bool pb := (hr 19 (by decide)).trans rfl
              exact rel_run (v := .bool pb) (by clear hn hr hK; generalize a.eval = ρ at *; simp [execOp, e19, go_sem]) rfl (Below.refl _ _) hK
            refine StepAll.cons ?_ ?_
            · intro a wx hn hr hb K hK
              have ec := evc a
              have e114 : a.eval (.tmp 114) = .bool pb := hn 12 (by decide)
              have e115 : a.eval (.tmp 115) = .bool pb := hn 13 (by decide)
              exact rel_run (v := .bool false) (by clear hn hr hK; generalize a.eval = ρ at *; simp [execOp, e114, e115, go_sem]) rfl (Below.refl _ _) hK
            refine StepAll.cons ?_ ?_
            · intro a wx hn hr hb K hK
              have ec := evc a
              have e113 : a.eval (.tmp 113) = .bool false := hn 11 (by decide)
              have e116 : a.eval (.tmp 116) = .bool false := hn 14 (by decide)
              exact rel_run (v := .bool false) (by clear hn hr hK; generalize a.eval = ρ at *; simp [execOp, e113, e116, go_sem]) rfl (Below.refl _ _) hK
            refine StepAll.cons ?_ ?_
            · intro a wx hn hr hb K hK
              have ec := evc a
              have e117 : a.eval (.tmp 117) = .bool false := hn 15 (by decide)
              exact rel_run (v := .bool false) (by clear hn hr hK; generalize a.eval = ρ at *; simp [execOp, e117, go_sem]) rfl (Below.refl _ _) hK
            refine StepAll.cons ?_ ?_
            · intro a wx hn hr hb K hK
              have ec := evc a
              have e5 : a.eval (.tmp 5) = .pointer (some ⟨W.heap.size + 1, 0, none⟩) := (hr 5 (by decide)).trans rfl
              have c0 := bcl hb kC0
              exact rel_run (v := .agg #[.slice adD E2.length capD]) (by clear hn hr hK; generalize a.eval = ρ at *; simp [execOp, e5, c0, go_sem]) rfl (Below.refl _ _) hK
            refine StepAll.cons ?_ ?_
            · intro a wx hn hr hb K hK
              have ec := evc a
              have e119 : a.eval (.tmp 119) = .agg #[.slice adD E2.length capD] := hn 17 (by decide)
              have ef : a.eval (.func 59) = .func (.func 59) #[] #[] := rfl
              exact rel_call (by clear hn hr hK; generalize a.eval = ρ at *; simp [execOp, e119, cf59, ef, go_sem]) (keys_calls (HCd.out.later hb) (by omega)) hK
            refine StepAll.cons ?_ ?_
            · intro a wx hn hr hb K hK
              have ec := evc a
              have e6 : a.eval (.tmp 6) = .slice adR E2.length capR := (hr 6 (by decide)).trans rfl
              exact rel_run (v := .slice adR E2.length capR) (by clear hn hr hK; generalize a.eval = ρ at *; simp [execOp, e6, go_sem]) (HLr.out.later hb) (Below.refl _ _) hK
            refine StepAll.cons ?_ ?_
            · intro a wx hn hr hb K hK
              have ec := evc a
              obtain ⟨ad121, cp121, e121, i121, n121⟩ := (show LaAt wx (a.eval (.tmp 121)) E2 from hn 19 (by decide)).ex
              have ef : a.eval (.func 60) = .func (.func 60) #[] #[] := rfl
              exact rel_call (by clear hn hr hK; generalize a.eval = ρ at *; simp [execOp, e121, cf60, ef, go_sem]) (rkeys_calls ⟨ad121, cp121, rfl, i121, n121⟩ (by omega)) hK
            refine StepAll.cons ?_ ?_
            · intro a wx hn hr hb K hK
              have ec := evc a
              obtain ⟨ad120, cp120, e120, i120⟩ := (show NsAt wx (a.eval (.tmp 120)) (kKeys E2) from hn 18 (by decide)).ex
              obtain ⟨ad122, cp122, e122, i122⟩ := (show NsAt wx (a.eval (.tmp 122)) (kKeys E2) from hn 20 (by decide)).ex
              have ef : a.eval (.func 44) = .func (.func 44) #[] #[] := rfl
              exact rel_call (by clear hn hr hK; generalize a.eval = ρ at *; simp [execOp, e120, e122, cf44, ef, go_sem]) ((same_calls (c1 := cp120) (c2 := cp122) i120 i122 rfl rfl (by rw [kKeys, List.length_map]; omega) (by rw [kKeys, List.length_map]; omega)).mono (fun e w2 h => ⟨.bool true, h.1.trans (by rw [show decide (kKeys E2 = kKeys E2) = true from decide_eq_true rfl]), rfl, h.2⟩)) hK
            refine StepAll.cons ?_ ?_
            · intro a wx hn hr hb K hK
              have ec := evc a
              have e123 : a.eval (.tmp 123) = .bool true := hn 21 (by decide)
              exact rel_run (v := .bool false) (by clear hn hr hK; generalize a.eval = ρ at *; simp [execOp, e123, go_sem]) rfl (Below.refl _ _) hK
            refine StepAll.cons ?_ ?_
            · intro a wx hn hr hb K hK
              have ec := evc a
              have e118 : a.eval (.tmp 118) = .bool false := hn 16 (by decide)
              have e124 : a.eval (.tmp 124) = .bool false := hn 22 (by decide)
              exact rel_run (v := .bool false) (by clear hn hr hK; generalize a.eval = ρ at *; simp [execOp, e118, e124, go_sem]) rfl (Below.refl _ _) hK
            exact trivial
          intro f w9 hv hb
          have er : f 125 = .bool false := hv 23 (by decide)
          clear hv kC0 kE0 kF0 kE1 kF1 kE2 kF2 kE3 kF3
          simp only [patchG, Nat.reduceAdd, Nat.reduceLeDiff, decide_true, decide_false, Bool.and_true, Bool.and_false, cond_true, cond_false, er]
          have H := hid (H2.out.still hb)
          clear H2 hb HCd HLr
          go_wp2_with fail
          go_roundw
          case rel => exact ⟨j + 1, .slice adR E2.length capR, .slice adD E2.length capD, E2, by omega, by omega, by go_num, rfl, HR2, by omega, hid (Hd.dropEnd (Rs := [CaR (.slice adR E2.length capR) E2, CaR (.slice adD E2.length capD) E2, Blk (W.heap.size + 1) (.cells #[.slice adD E2.length capD] 85 (0, 0))]) (((H.out.front 2 rfl).front 7 rfl).front 5 rfl))⟩
          case measure => simp [intOf]; omega
      · have d3 : decide ((j : Int) < (len1 : Int)) = false := by simp; omega
        have d3' : decide (j < len1) = false := by simp; omega
        by_cases hk : k0 % 4 = 0
        · rw [hk] at hand
          go_wp2_with fail
          have H1 := hid ((H.out.boxk (o := .cells #[.int .i64 k0, .int .i64 k1, .int .i64 k2] 87 (0, 0)) wo.heap.size rfl).boxk (o := .cells #[.int .i64 k1, .int .i64 k2, .int .u64 0, .int .u64 0] 91 (0, 0)) (wo.heap.size + 1) (by simp))
          obtain ⟨E2, hE2⟩ : ∃ E2, kDrop es k1 = E2 := ⟨_, rfl⟩
          obtain ⟨hr2, he4, hw2⟩ := rises_drop HR.out hes hE2
          have HR2 := hid hr2
          have HE2 := hid hE2
          have HW2 := hid hw2
          clear hE2 hr2 hw2
          refine (drop16_is k1 HE2.out HR.out (by omega) (H1.out.front 3 rfl).ca H1.out).mono ?_
          rintro e w2 ⟨adD, capD, rfl, hd⟩
          clear H H1 c0 cs x0 x1 x2 
          have H := hid hd
          clear hd
          have hk := Hd.nthk 5 H.out rfl
          have c0 := (cell_of_heap hk 0).trans rfl
          have cs := (Array.getElem?_eq_some_iff.1 hk).1
          have cf := frozen_of_heap hk
          clear hk
          have hk := Hd.nthk 2 H.out rfl
          have t80 := (cell_of_heap hk 0).trans (show _ = some (.int .i64 k0) from rfl)
          have t81 := (cell_of_heap hk 1).trans (show _ = some (.int .i64 k1) from rfl)
          have t82 := (cell_of_heap hk 2).trans (show _ = some (.int .i64 k2) from rfl)
          have t8s := (Array.getElem?_eq_some_iff.1 hk).1
          clear hk
          go_wp2_with fail
          have H2 := hid ((H.out.front 5 rfl).set 0 (.slice adD E2.length capD))
          refine (rdrop16_is k1 HW2.out (by omega) (H2.out.front 4 rfl).la H2.out).mono ?_
          rintro e w3 ⟨adR, capR, rfl, hd⟩
          clear H H2 c0 cs cf t80 t81 t82 t8s
          have H := hid hd
          clear hd
          have hk := Hd.nthk 1 H.out rfl
          have c0 := (cell_of_heap hk 0).trans rfl
          have cs := (Array.getElem?_eq_some_iff.1 hk).1
          clear hk
          have hk := Hd.nthk 4 H.out rfl
          have t80 := (cell_of_heap hk 0).trans (show _ = some (.int .i64 k0) from rfl)
          have t81 := (cell_of_heap hk 1).trans (show _ = some (.int .i64 k1) from rfl)
          have t82 := (cell_of_heap hk 2).trans (show _ = some (.int .i64 k2) from rfl)
          have t8s := (Array.getElem?_eq_some_iff.1 hk).1
          clear hk
          go_wp2_with fail
          obtain ⟨⟨⟨pa, pk, px, py⟩, pb⟩, hG⟩ : ∃ r, kGet E2 k2 = r := ⟨_, rfl⟩
          have HG := hid hG
          have HG2 := hid ((kGet_eq HR2.out k2).symm.trans hG)
          clear hG
          refine (get16_is k2 HG.out HR2.out (by omega) (H.out.front 2 rfl).ca H.out).mono ?_
          rintro e w5 ⟨rfl, hd⟩
          clear H c0 cs t80 t81 t82 t8s
          have H := hid hd
          clear hd
          have hk := Hd.nthk 1 H.out rfl
          have c0 := (cell_of_heap hk 0).trans rfl
          have cs := (Array.getElem?_eq_some_iff.1 hk).1
          clear hk
          have hk := Hd.nthk 4 H.out rfl
          have t80 := (cell_of_heap hk 0).trans (show _ = some (.int .i64 k0) from rfl)
          have t81 := (cell_of_heap hk 1).trans (show _ = some (.int .i64 k1) from rfl)
          have t82 := (cell_of_heap hk 2).trans (show _ = some (.int .i64 k2) from rfl)
          have t8s := (Array.getElem?_eq_some_iff.1 hk).1
          clear hk
          go_wp2_with fail
          have H2 := hid (H.out.boxk (o := .cells #[.int .i64 pa, .int .i64 pk, .int .u64 px, .int .u64 py] 91 (0, 0)) w5.heap.size rfl)
          refine (rget16_is k2 HG2.out (by omega) (H2.out.front 1 rfl).la H2.out).mono ?_
          rintro e w6 ⟨rfl, hd⟩
          clear H H2 c0 cs t80 t81 t82 t8s
          have H := hid hd
          clear hd
          go_wp2_with fail
          have H2 := hid (H.out.boxk (o := .cells #[.int .i64 pa, .int .i64 pk, .int .u64 px, .int .u64 py] 98 (0, 0)) w6.heap.size rfl)
          clear H
          obtain ⟨wz, hwz⟩ : ∃ wz, w6.alloc (.cells #[.int .i64 pa, .int .i64 pk, .int .u64 px, .int .u64 py] 98 (0, 0)) = wz := ⟨_, rfl⟩
          rw [hwz] at H2 ⊢
          clear hwz
          have kC0 := (cell_of_heap (Hd.nthk 3 H2.out rfl) 0).trans (show _ = some (.slice adD E2.length capD) from rfl)
          have kE0 := (cell_of_heap (Hd.nthk 1 H2.out rfl) 0).trans (show _ = some (.int .i64 pa) from rfl)
          have kE1 := (cell_of_heap (Hd.nthk 1 H2.out rfl) 1).trans (show _ = some (.int .i64 pk) from rfl)
          have kE2 := (cell_of_heap (Hd.nthk 1 H2.out rfl) 2).trans (show _ = some (.int .u64 px) from rfl)
          have kE3 := (cell_of_heap (Hd.nthk 1 H2.out rfl) 3).trans (show _ = some (.int .u64 py) from rfl)
          have kF0 := (cell_of_heap (Hd.nthk 0 H2.out rfl) 0).trans (show _ = some (.int .i64 pa) from rfl)
          have kF1 := (cell_of_heap (Hd.nthk 0 H2.out rfl) 1).trans (show _ = some (.int .i64 pk) from rfl)
          have kF2 := (cell_of_heap (Hd.nthk 0 H2.out rfl) 2).trans (show _ = some (.int .u64 px) from rfl)
          have kF3 := (cell_of_heap (Hd.nthk 0 H2.out rfl) 3).trans (show _ = some (.int .u64 py) from rfl)
          have HCd := hid (H2.out.front 4 rfl).ca
          have HLr := hid (H2.out.front 2 rfl).la
          have cf44 : ∀ args w, (callFunc 44 args).run Try.prog w = .ok (.enter 44 args) w := fun args w => by kernel_rfl
          have cf54 : ∀ args w, (callFunc 54 args).run Try.prog w = .ok (.enter 54 args) w := fun args w => by kernel_rfl
          have cf57 : ∀ args w, (callFunc 57 args).run Try.prog w = .ok (.enter 57 args) w := fun args w => by kernel_rfl
          have cf58 : ∀ args w, (callFunc 58 args).run Try.prog w = .ok (.enter 58 args) w := fun args w => by kernel_rfl
          have cf59 : ∀ args w, (callFunc 59 args).run Try.prog w = .ok (.enter 59 args) w := fun args w => by kernel_rfl
          have cf60 : ∀ args w, (callFunc 60 args).run Try.prog w = .ok (.enter 60 args) w := fun args w => by kernel_rfl
          refine wp_region_rel ([] :: [0] :: [] :: [1, 2] :: [3] :: [4] :: [5] :: [5, 6] :: [5] :: [5, 7, 8] :: [5, 9] :: [10] :: [11] :: [11] :: [11, 12, 13] :: [11, 14] :: [15] :: [16] :: [16, 17] :: [16] :: [16, 19] :: [16, 18, 20] :: [16, 21] :: [16, 22] :: []) (102 :: 103 :: 104 :: 105 :: 106 :: 107 :: 108 :: 109 :: 110 :: 111 :: 112 :: 113 :: 114 :: 115 :: 116 :: 117 :: 118 :: 119 :: 120 :: 121 :: 122 :: 123 :: 124 :: 125 :: []) (fun i v w => ((
              .is (.agg #[.slice adD E2.length capD]) ::
              .en E2 ::
              .en E2 ::
              .is (.bool true) ::
              .is (.bool false) ::
              .is (.bool false) ::
              .is (.agg #[.int .i64 pa, .int .i64 pk, .int .u64 px, .int .u64 py]) ::
              .is (.agg #[.int .i64 pa, .int .i64 pk, .int .u64 px, .int .u64 py]) ::
              .is (.agg #[.int .i64 pa, .int .i64 pk, .int .u64 px, .int .u64 py]) ::
              .is (.bool false) ::
              .is (.bool false) ::
              .is (.bool false) ::
              .is (.bool pb) ::
              .is (.bool pb) ::
              .is (.bool false) ::
              .is (.bool false) ::
              .is (.bool false) ::
              .is (.agg #[.slice adD E2.length capD]) ::
              .ints (kKeys E2) ::
              .en E2 ::
              .ints (kKeys E2) ::
              .is (.bool true) ::
              .is (.bool false) ::
              .is (.bool false) :: ([] : List Fact)).getD i .any).of v w) (by kernel_rfl) (by kernel_rfl) (fun d hd => Nat.lt_of_lt_of_eq (rel_lt (n := 127) (by decide) d hd) rfl) ?_ ?_ ?_ (fun t => decide (102 ≤ t) && decide (t ≤ 125)) (by decide) ?_
          · repeat (refine StepAll.cons (by first | exact trivial | exact fun v w h => h) ?_)
            exact trivial
          · intro i v w x h hb
            exact Fact.later h hb
          ·
            refine StepAll.cons ?_ ?_
            · intro a wx hn hr hb K hK
              have ec := evc a
              have e5 : a.eval (.tmp 5) = .pointer (some ⟨W.heap.size + 1, 0, none⟩) := (hr 5 (by decide)).trans rfl
              have c0 := bcl hb kC0
              exact rel_run (v := .agg #[.slice adD E2.length capD]) (by clear hn hr hK; generalize a.eval = ρ at *; simp [execOp, e5, c0, go_sem]) rfl (Below.refl _ _) hK
            refine StepAll.cons ?_ ?_
            · intro a wx hn hr hb K hK
              have ec := evc a
              have e102 : a.eval (.tmp 102) = .agg #[.slice adD E2.length capD] := hn 0 (by decide)
              have ef : a.eval (.func 58) = .func (.func 58) #[] #[] := rfl
              exact rel_call (by clear hn hr hK; generalize a.eval = ρ at *; simp [execOp, e102, cf58, ef, go_sem]) (refs_calls (HCd.out.later hb) (by omega)) hK
            refine StepAll.cons ?_ ?_
            · intro a wx hn hr hb K hK
              have ec := evc a
              have e6 : a.eval (.tmp 6) = .slice adR E2.length capR := (hr 6 (by decide)).trans rfl
              exact rel_run (v := .slice adR E2.length capR) (by clear hn hr hK; generalize a.eval = ρ at *; simp [execOp, e6, go_sem]) (HLr.out.later hb) (Below.refl _ _) hK
            refine StepAll.cons ?_ ?_
            · intro a wx hn hr hb K hK
              have ec := evc a
              obtain ⟨ad103, cp103, e103, i103, n103⟩ := (show LaAt wx (a.eval (.tmp 103)) E2 from hn 1 (by decide)).ex
              obtain ⟨ad104, cp104, e104, i104, n104⟩ := (show LaAt wx (a.eval (.tmp 104)) E2 from hn 2 (by decide)).ex
              have ef : a.eval (.func 57) = .func (.func 57) #[] #[] := rfl
              exact rel_call (by clear hn hr hK; generalize a.eval = ρ at *; simp [execOp, e103, e104, cf57, ef, go_sem]) ((rsame_calls (ca := cp103) (cb := cp104) i103 i104 rfl rfl (by omega) (by omega)).mono (fun e w2 h => ⟨.bool true, h.1.trans (by rw [show decide (E2 = E2) = true from decide_eq_true rfl]), rfl, h.2⟩)) hK
            refine StepAll.cons ?_ ?_
            · intro a wx hn hr hb K hK
              have ec := evc a
              have e105 : a.eval (.tmp 105) = .bool true := hn 3 (by decide)
              exact rel_run (v := .bool false) (by clear hn hr hK; generalize a.eval = ρ at *; simp [execOp, e105, go_sem]) rfl (Below.refl _ _) hK
            refine StepAll.cons ?_ ?_
            · intro a wx hn hr hb K hK
              have ec := evc a
              have e106 : a.eval (.tmp 106) = .bool false := hn 4 (by decide)
              exact rel_run (v := .bool false) (by clear hn hr hK; generalize a.eval = ρ at *; simp [execOp, e106, go_sem]) rfl (Below.refl _ _) hK
            refine StepAll.cons ?_ ?_
            · intro a wx hn hr hb K hK
              have ec := evc a
              have e16 : a.eval (.tmp 16) = .pointer (some ⟨w5.heap.size, 0, none⟩) := (hr 16 (by decide)).trans rfl
              have c0 := bcl hb kE0
              have c1 := bcl hb kE1
              have c2 := bcl hb kE2
              have c3 := bcl hb kE3
              exact rel_run (v := .agg #[.int .i64 pa, .int .i64 pk, .int .u64 px, .int .u64 py]) (by clear hn hr hK; generalize a.eval = ρ at *; simp [execOp, e16, c0, c1, c2, c3, go_sem]) rfl (Below.refl _ _) hK
            refine StepAll.cons ?_ ?_
            · intro a wx hn hr hb K hK
              have ec := evc a
              have e108 : a.eval (.tmp 108) = .agg #[.int .i64 pa, .int .i64 pk, .int .u64 px, .int .u64 py] := hn 6 (by decide)
              have ef : a.eval (.func 54) = .func (.func 54) #[] #[] := rfl
              exact rel_call (by clear hn hr hK; generalize a.eval = ρ at *; simp [execOp, e108, cf54, ef, go_sem]) ((one_calls pa pk px py wx).mono (fun e w2 h => ⟨_, h.1, rfl, h.2⟩)) hK
            refine StepAll.cons ?_ ?_
            · intro a wx hn hr hb K hK
              have ec := evc a
              have e18 : a.eval (.tmp 18) = .pointer (some ⟨w6.heap.size, 0, none⟩) := (hr 18 (by decide)).trans rfl
              have c0 := bcl hb kF0
              have c1 := bcl hb kF1
              have c2 := bcl hb kF2
              have c3 := bcl hb kF3
              exact rel_run (v := .agg #[.int .i64 pa, .int .i64 pk, .int .u64 px, .int .u64 py]) (by clear hn hr hK; generalize a.eval = ρ at *; simp [execOp, e18, c0, c1, c2, c3, go_sem]) rfl (Below.refl _ _) hK
            refine StepAll.cons ?_ ?_
            · intro a wx hn hr hb K hK
              have ec := evc a
              have e109 : a.eval (.tmp 109) = .agg #[.int .i64 pa, .int .i64 pk, .int .u64 px, .int .u64 py] := hn 7 (by decide)
              have e110 : a.eval (.tmp 110) = .agg #[.int .i64 pa, .int .i64 pk, .int .u64 px, .int .u64 py] := hn 8 (by decide)
              exact rel_run (v := .bool false) (by clear hn hr hK; generalize a.eval = ρ at *; simp [execOp, e109, e110, go_sem]) rfl (Below.refl _ _) hK
            refine StepAll.cons ?_ ?_
            · intro a wx hn hr hb K hK
              have ec := evc a
              have e107 : a.eval (.tmp 107) = .bool false := hn 5 (by decide)
              have e111 : a.eval (.tmp 111) = .bool false := hn 9 (by decide)
              exact rel_run (v := .bool false) (by clear hn hr hK; generalize a.eval = ρ at *; simp [execOp, e107, e111, go_sem]) rfl (Below.refl _ _) hK
            refine StepAll.cons ?_ ?_
            · intro a wx hn hr hb K hK
              have ec := evc a
              have e112 : a.eval (.tmp 112) = .bool false := hn 10 (by decide)
              exact rel_run (v := .bool false) (by clear hn hr hK; generalize a.eval = ρ at *; simp [execOp, e112, go_sem]) rfl (Below.refl _ _) hK
            refine StepAll.cons ?_ ?_
            · intro a wx hn hr hb K hK
              have ec := evc a
              have e17 : a.eval (.tmp 17) = .bool pb := (hr 17 (by decide)).trans rfl
              exact rel_run (v := .bool pb) (by clear hn hr hK; generalize a.eval = ρ at *; simp [execOp, e17, go_sem]) rfl (Below.refl _ _) hK
            refine StepAll.cons ?_ ?_
            · intro a wx hn hr hb K hK
              have ec := evc a
              have e19 : a.eval (.tmp 19) = .bool pb := (hr 19 (by decide)).trans rfl
              exact rel_run (v := .bool pb) (by clear hn hr hK; generalize a.eval = ρ at *; simp [execOp, e19, go_sem]) rfl (Below.refl _ _) hK
            refine StepAll.cons ?_ ?_
            · intro a wx hn hr hb K hK
              have ec := evc a
              have e114 : a.eval (.tmp 114) = .bool pb := hn 12 (by decide)
              have e115 : a.eval (.tmp 115) = .bool pb := hn 13 (by decide)
              exact rel_run (v := .bool false) (by clear hn hr hK; generalize a.eval = ρ at *; simp [execOp, e114, e115, go_sem]) rfl (Below.refl _ _) hK
            refine StepAll.cons ?_ ?_
            · intro a wx hn hr hb K hK
              have ec := evc a
              have e113 : a.eval (.tmp 113) = .bool false := hn 11 (by decide)
              have e116 : a.eval (.tmp 116) = .bool false := hn 14 (by decide)
              exact rel_run (v := .bool false) (by clear hn hr hK; generalize a.eval = ρ at *; simp [execOp, e113, e116, go_sem]) rfl (Below.refl _ _) hK
            refine StepAll.cons ?_ ?_
            · intro a wx hn hr hb K hK
              have ec := evc a
              have e117 : a.eval (.tmp 117) = .bool false := hn 15 (by decide)
              exact rel_run (v := .bool false) (by clear hn hr hK; generalize a.eval = ρ at *; simp [execOp, e117, go_sem]) rfl (Below.refl _ _) hK
            refine StepAll.cons ?_ ?_
            · intro a wx hn hr hb K hK
              have ec := evc a
              have e5 : a.eval (.tmp 5) = .pointer (some ⟨W.heap.size + 1, 0, none⟩) := (hr 5 (by decide)).trans rfl
              have c0 := bcl hb kC0
              exact rel_run (v := .agg #[.slice adD E2.length capD]) (by clear hn hr hK; generalize a.eval = ρ at *; simp [execOp, e5, c0, go_sem]) rfl (Below.refl _ _) hK
            refine StepAll.cons ?_ ?_
            · intro a wx hn hr hb K hK
              have ec := evc a
              have e119 : a.eval (.tmp 119) = .agg #[.slice adD E2.length capD] := hn 17 (by decide)
              have ef : a.eval (.func 59) = .func (.func 59) #[] #[] := rfl
              exact rel_call (by clear hn hr hK; generalize a.eval = ρ at *; simp [execOp, e119, cf59, ef, go_sem]) (keys_calls (HCd.out.later hb) (by omega)) hK
            refine StepAll.cons ?_ ?_
            · intro a wx hn hr hb K hK
              have ec := evc a
              have e6 : a.eval (.tmp 6) = .slice adR E2.length capR := (hr 6 (by decide)).trans rfl
              exact rel_run (v := .slice adR E2.length capR) (by clear hn hr hK; generalize a.eval = ρ at *; simp [execOp, e6, go_sem]) (HLr.out.later hb) (Below.refl _ _) hK
            refine StepAll.cons ?_ ?_
            · intro a wx hn hr hb K hK
              have ec := evc a
              obtain ⟨ad121, cp121, e121, i121, n121⟩ := (show LaAt wx (a.eval (.tmp 121)) E2 from hn 19 (by decide)).ex
              have ef : a.eval (.func 60) = .func (.func 60) #[] #[] := rfl
              exact rel_call (by clear hn hr hK; generalize a.eval = ρ at *; simp [execOp, e121, cf60, ef, go_sem]) (rkeys_calls ⟨ad121, cp121, rfl, i121, n121⟩ (by omega)) hK
            refine StepAll.cons ?_ ?_
            · intro a wx hn hr hb K hK
              have ec := evc a
              obtain ⟨ad120, cp120, e120, i120⟩ := (show NsAt wx (a.eval (.tmp 120)) (kKeys E2) from hn 18 (by decide)).ex
              obtain ⟨ad122, cp122, e122, i122⟩ := (show NsAt wx (a.eval (.tmp 122)) (kKeys E2) from hn 20 (by decide)).ex
              have ef : a.eval (.func 44) = .func (.func 44) #[] #[] := rfl
              exact rel_call (by clear hn hr hK; generalize a.eval = ρ at *; simp [execOp, e120, e122, cf44, ef, go_sem]) ((same_calls (c1 := cp120) (c2 := cp122) i120 i122 rfl rfl (by rw [kKeys, List.length_map]; omega) (by rw [kKeys, List.length_map]; omega)).mono (fun e w2 h => ⟨.bool true, h.1.trans (by rw [show decide (kKeys E2 = kKeys E2) = true from decide_eq_true rfl]), rfl, h.2⟩)) hK
            refine StepAll.cons ?_ ?_
            · intro a wx hn hr hb K hK
              have ec := evc a
              have e123 : a.eval (.tmp 123) = .bool true := hn 21 (by decide)
              exact rel_run (v := .bool false) (by clear hn hr hK; generalize a.eval = ρ at *; simp [execOp, e123, go_sem]) rfl (Below.refl _ _) hK
            refine StepAll.cons ?_ ?_
            · intro a wx hn hr hb K hK
              have ec := evc a
              have e118 : a.eval (.tmp 118) = .bool false := hn 16 (by decide)
              have e124 : a.eval (.tmp 124) = .bool false := hn 22 (by decide)
              exact rel_run (v := .bool false) (by clear hn hr hK; generalize a.eval = ρ at *; simp [execOp, e118, e124, go_sem]) rfl (Below.refl _ _) hK
            exact trivial
          intro f w9 hv hb
          have er : f 125 = .bool false := hv 23 (by decide)
          clear hv kC0 kE0 kF0 kE1 kF1 kE2 kF2 kE3 kF3
          simp only [patchG, Nat.reduceAdd, Nat.reduceLeDiff, decide_true, decide_false, Bool.and_true, Bool.and_false, cond_true, cond_false, er]
          have H := hid (H2.out.still hb)
          clear H2 hb HCd HLr
          go_wp2_with fail
          go_roundw
          case rel => exact ⟨j + 1, .slice adR E2.length capR, .slice adD E2.length capD, E2, by omega, by omega, by go_num, rfl, HR2, by omega, hid (Hd.dropEnd (Rs := [CaR (.slice adR E2.length capR) E2, CaR (.slice adD E2.length capD) E2, Blk (W.heap.size + 1) (.cells #[.slice adD E2.length capD] 85 (0, 0))]) (((H.out.front 3 rfl).front 4 rfl).front 4 rfl))⟩
          case measure => simp [intOf]; omega
        · have hkf : decide (k0 % 4 = 0) = false := by simpa using hk
          have hkf2 : (k0 % 4 == 0) = false := by simpa using hk
          go_wp2_with fail
          have H1 := hid ((H.out.boxk (o := .cells #[.int .i64 k0, .int .i64 k1, .int .i64 k2] 87 (0, 0)) wo.heap.size rfl).boxk (o := .cells #[.int .i64 k1, .int .i64 k2, .int .u64 0, .int .u64 0] 91 (0, 0)) (wo.heap.size + 1) (by simp))
          obtain ⟨⟨E2, ⟨ga, gk, gx, gy⟩, b⟩, hE2⟩ : ∃ r, kPut es ⟨k1, k2, 0, 0⟩ = r := ⟨_, rfl⟩
          obtain ⟨hr2, he4, hw2⟩ := rises_put HR.out hes hE2
          have HR2 := hid hr2
          have HE2 := hid hE2
          have HW2 := hid hw2
          clear hE2 hr2 hw2
          refine (put16_is k1 k2 0 0 HE2.out HR.out (by omega) (H1.out.front 3 rfl).ca H1.out).mono ?_
          rintro e w2 ⟨adD, capD, rfl, hd⟩
          clear H H1 c0 cs x0 x1 x2 
          have H := hid hd
          clear hd
          have hk := Hd.nthk 1 H.out rfl
          have t90 := (cell_of_heap hk 0).trans (show _ = some (.int .i64 k1) from rfl)
          have t91 := (cell_of_heap hk 1).trans (show _ = some (.int .i64 k2) from rfl)
          have t92 := (cell_of_heap hk 2).trans (show _ = some (.int .u64 0) from rfl)
          have t93 := (cell_of_heap hk 3).trans (show _ = some (.int .u64 0) from rfl)
          have t9s := (Array.getElem?_eq_some_iff.1 hk).1
          clear hk
          have zw1 : wo.heap.size < w2.heap.size := by omega
          have zw2 : ¬ (wo.heap.size = w2.heap.size) := by omega
          have zw3 : ¬ (wo.heap.size + 1 = w2.heap.size) := by omega
          go_wp2_with fail
          have H2 := hid ((H.out.boxk (o := .cells #[.slice adD E2.length capD] 85 (0, 0)) w2.heap.size rfl).boxk (o := .cells #[.int .i64 ga, .int .i64 gk, .int .u64 gx, .int .u64 gy] 91 (0, 0)) (w2.heap.size + 1) (by simp))
          refine (one_calls k1 k2 0 0 _).mono ?_
          rintro e w3 ⟨rfl, hb⟩
          have H3 := hid (H2.out.still hb)
          clear H H2 hb t90 t91 t92 t93 t9s
          have H := H3
          clear H3
          go_wp2_with fail
          refine (rput16_is k1 k2 0 0 HW2.out HR.out (by omega) (H.out.front 5 rfl).la H.out).mono ?_
          rintro e w4 ⟨adR, capR, rfl, hd⟩
          clear H
          have H := hid hd
          clear hd
          go_wp2_with fail
          have H2 := hid (H.out.boxk (o := .cells #[.int .i64 ga, .int .i64 gk, .int .u64 gx, .int .u64 gy] 98 (0, 0)) w4.heap.size rfl)
          clear H
          obtain ⟨wz, hwz⟩ : ∃ wz, w4.alloc (.cells #[.int .i64 ga, .int .i64 gk, .int .u64 gx, .int .u64 gy] 98 (0, 0)) = wz := ⟨_, rfl⟩
          rw [hwz] at H2 ⊢
          clear hwz
          have kE0 := (cell_of_heap (Hd.nthk 2 H2.out rfl) 0).trans (show _ = some (.int .i64 ga) from rfl)
          have kE1 := (cell_of_heap (Hd.nthk 2 H2.out rfl) 1).trans (show _ = some (.int .i64 gk) from rfl)
          have kE2 := (cell_of_heap (Hd.nthk 2 H2.out rfl) 2).trans (show _ = some (.int .u64 gx) from rfl)
          have kE3 := (cell_of_heap (Hd.nthk 2 H2.out rfl) 3).trans (show _ = some (.int .u64 gy) from rfl)
          have kF0 := (cell_of_heap (Hd.nthk 0 H2.out rfl) 0).trans (show _ = some (.int .i64 ga) from rfl)
          have kF1 := (cell_of_heap (Hd.nthk 0 H2.out rfl) 1).trans (show _ = some (.int .i64 gk) from rfl)
          have kF2 := (cell_of_heap (Hd.nthk 0 H2.out rfl) 2).trans (show _ = some (.int .u64 gx) from rfl)
          have kF3 := (cell_of_heap (Hd.nthk 0 H2.out rfl) 3).trans (show _ = some (.int .u64 gy) from rfl)
          have cf54 : ∀ args w, (callFunc 54 args).run Try.prog w = .ok (.enter 54 args) w := fun args w => by kernel_rfl
          refine wp_region_rel ([] :: [0] :: [] :: [1, 2] :: [3] :: [4] :: [4] :: [4, 5, 6] :: [4, 7] :: []) (77 :: 78 :: 79 :: 80 :: 81 :: 82 :: 83 :: 84 :: 85 :: []) (fun i v w => ((
              .is (.agg #[.int .i64 ga, .int .i64 gk, .int .u64 gx, .int .u64 gy]) ::
              .is (.agg #[.int .i64 ga, .int .i64 gk, .int .u64 gx, .int .u64 gy]) ::
              .is (.agg #[.int .i64 ga, .int .i64 gk, .int .u64 gx, .int .u64 gy]) ::
              .is (.bool false) ::
              .is (.bool false) ::
              .is (.bool b) ::
              .is (.bool b) ::
              .is (.bool false) ::
              .is (.bool false) :: ([] : List Fact)).getD i .any).of v w) (by kernel_rfl) (by kernel_rfl) (fun d hd => Nat.lt_of_lt_of_eq (rel_lt (n := 127) (by decide) d hd) rfl) ?_ ?_ ?_ (fun t => decide (77 ≤ t) && decide (t ≤ 85)) (by decide) ?_
          · repeat (refine StepAll.cons (by first | exact trivial | exact fun v w h => h) ?_)
            exact trivial
          · intro i v w x h hb
            exact Fact.later h hb
          ·
            refine StepAll.cons ?_ ?_
            · intro a wx hn hr hb K hK
              have ec := evc a
              have e11 : a.eval (.tmp 11) = .pointer (some ⟨w2.heap.size + 1, 0, none⟩) := (hr 11 (by decide)).trans rfl
              have c0 := bcl hb kE0
              have c1 := bcl hb kE1
              have c2 := bcl hb kE2
              have c3 := bcl hb kE3
              exact rel_run (v := .agg #[.int .i64 ga, .int .i64 gk, .int .u64 gx, .int .u64 gy]) (by clear hn hr hK; generalize a.eval = ρ at *; simp [execOp, e11, c0, c1, c2, c3, go_sem]) rfl (Below.refl _ _) hK
            refine StepAll.cons ?_ ?_
            · intro a wx hn hr hb K hK
              have ec := evc a
              have e77 : a.eval (.tmp 77) = .agg #[.int .i64 ga, .int .i64 gk, .int .u64 gx, .int .u64 gy] := hn 0 (by decide)
              have ef : a.eval (.func 54) = .func (.func 54) #[] #[] := rfl
              exact rel_call (by clear hn hr hK; generalize a.eval = ρ at *; simp [execOp, e77, cf54, ef, go_sem]) ((one_calls ga gk gx gy wx).mono (fun e w2 h => ⟨_, h.1, rfl, h.2⟩)) hK
            refine StepAll.cons ?_ ?_
            · intro a wx hn hr hb K hK
              have ec := evc a
              have e14 : a.eval (.tmp 14) = .pointer (some ⟨w4.heap.size, 0, none⟩) := (hr 14 (by decide)).trans rfl
              have c0 := bcl hb kF0
              have c1 := bcl hb kF1
              have c2 := bcl hb kF2
              have c3 := bcl hb kF3
              exact rel_run (v := .agg #[.int .i64 ga, .int .i64 gk, .int .u64 gx, .int .u64 gy]) (by clear hn hr hK; generalize a.eval = ρ at *; simp [execOp, e14, c0, c1, c2, c3, go_sem]) rfl (Below.refl _ _) hK
            refine StepAll.cons ?_ ?_
            · intro a wx hn hr hb K hK
              have ec := evc a
              have e78 : a.eval (.tmp 78) = .agg #[.int .i64 ga, .int .i64 gk, .int .u64 gx, .int .u64 gy] := hn 1 (by decide)
              have e79 : a.eval (.tmp 79) = .agg #[.int .i64 ga, .int .i64 gk, .int .u64 gx, .int .u64 gy] := hn 2 (by decide)
              exact rel_run (v := .bool false) (by clear hn hr hK; generalize a.eval = ρ at *; simp [execOp, e78, e79, go_sem]) rfl (Below.refl _ _) hK
            refine StepAll.cons ?_ ?_
            · intro a wx hn hr hb K hK
              have ec := evc a
              have e80 : a.eval (.tmp 80) = .bool false := hn 3 (by decide)
              exact rel_run (v := .bool false) (by clear hn hr hK; generalize a.eval = ρ at *; simp [execOp, e80, go_sem]) rfl (Below.refl _ _) hK
            refine StepAll.cons ?_ ?_
            · intro a wx hn hr hb K hK
              have ec := evc a
              have e12 : a.eval (.tmp 12) = .bool b := (hr 12 (by decide)).trans rfl
              exact rel_run (v := .bool b) (by clear hn hr hK; generalize a.eval = ρ at *; simp [execOp, e12, go_sem]) rfl (Below.refl _ _) hK
            refine StepAll.cons ?_ ?_
            · intro a wx hn hr hb K hK
              have ec := evc a
              have e15 : a.eval (.tmp 15) = .bool b := (hr 15 (by decide)).trans rfl
              exact rel_run (v := .bool b) (by clear hn hr hK; generalize a.eval = ρ at *; simp [execOp, e15, go_sem]) rfl (Below.refl _ _) hK
            refine StepAll.cons ?_ ?_
            · intro a wx hn hr hb K hK
              have ec := evc a
              have e82 : a.eval (.tmp 82) = .bool b := hn 5 (by decide)
              have e83 : a.eval (.tmp 83) = .bool b := hn 6 (by decide)
              exact rel_run (v := .bool false) (by clear hn hr hK; generalize a.eval = ρ at *; simp [execOp, e82, e83, go_sem]) rfl (Below.refl _ _) hK
            refine StepAll.cons ?_ ?_
            · intro a wx hn hr hb K hK
              have ec := evc a
              have e81 : a.eval (.tmp 81) = .bool false := hn 4 (by decide)
              have e84 : a.eval (.tmp 84) = .bool false := hn 7 (by decide)
              exact rel_run (v := .bool false) (by clear hn hr hK; generalize a.eval = ρ at *; simp [execOp, e81, e84, go_sem]) rfl (Below.refl _ _) hK
            exact trivial
          intro f w9 hv hb
          have er : f 85 = .bool false := hv 8 (by decide)
          clear hv kE0 kF0 kE1 kF1 kE2 kF2 kE3 kF3
          simp only [patchG, Nat.reduceAdd, Nat.reduceLeDiff, decide_true, decide_false, Bool.and_true, Bool.and_false, cond_true, cond_false, er]
          have H := hid (H2.out.still hb)
          clear H2 hb er
          have hk := Hd.nthk 9 H.out rfl
          have c0 := (cell_of_heap hk 0).trans rfl
          have cs := (Array.getElem?_eq_some_iff.1 hk).1
          have cf := frozen_of_heap hk
          clear hk
          have hk := Hd.nthk 6 H.out rfl
          have t80 := (cell_of_heap hk 0).trans (show _ = some (.int .i64 k0) from rfl)
          have t81 := (cell_of_heap hk 1).trans (show _ = some (.int .i64 k1) from rfl)
          have t82 := (cell_of_heap hk 2).trans (show _ = some (.int .i64 k2) from rfl)
          have t8s := (Array.getElem?_eq_some_iff.1 hk).1
          clear hk
          have hk10 := (cell_of_heap (Hd.nthk 3 H.out rfl) 0).trans (show _ = some (.slice adD E2.length capD) from rfl)
          go_wp2_with fail
          have H2 := hid ((H.out.front 9 rfl).set 0 (.slice adD E2.length capD))
          clear H
          have H := H2
          clear H2
          obtain ⟨⟨⟨pa, pk, px, py⟩, pb⟩, hG⟩ : ∃ r, kGet E2 k2 = r := ⟨_, rfl⟩
          have HG := hid hG
          have HG2 := hid ((kGet_eq HR2.out k2).symm.trans hG)
          clear hG
          refine (get16_is k2 HG.out HR2.out (by omega) (H.out.front 5 rfl).ca H.out).mono ?_
          rintro e w5 ⟨rfl, hd⟩
          clear H c0 cs cf t80 t81 t82 t8s hk10
          have H := hid hd
          clear hd
          have hk := Hd.nthk 0 H.out rfl
          have c0 := (cell_of_heap hk 0).trans rfl
          have cs := (Array.getElem?_eq_some_iff.1 hk).1
          clear hk
          have hk := Hd.nthk 7 H.out rfl
          have t80 := (cell_of_heap hk 0).trans (show _ = some (.int .i64 k0) from rfl)
          have t81 := (cell_of_heap hk 1).trans (show _ = some (.int .i64 k1) from rfl)
          have t82 := (cell_of_heap hk 2).trans (show _ = some (.int .i64 k2) from rfl)
          have t8s := (Array.getElem?_eq_some_iff.1 hk).1
          clear hk
          go_wp2_with fail
          have H2 := hid (H.out.boxk (o := .cells #[.int .i64 pa, .int .i64 pk, .int .u64 px, .int .u64 py] 91 (0, 0)) w5.heap.size rfl)
          refine (rget16_is k2 HG2.out (by omega) (H2.out.front 3 rfl).la H2.out).mono ?_
          rintro e w6 ⟨rfl, hd⟩
          clear H H2 c0 cs t80 t81 t82 t8s
          have H := hid hd
          clear hd
          go_wp2_with fail
          have H2 := hid (H.out.boxk (o := .cells #[.int .i64 pa, .int .i64 pk, .int .u64 px, .int .u64 py] 98 (0, 0)) w6.heap.size rfl)
          clear H
          obtain ⟨wz, hwz⟩ : ∃ wz, w6.alloc (.cells #[.int .i64 pa, .int .i64 pk, .int .u64 px, .int .u64 py] 98 (0, 0)) = wz := ⟨_, rfl⟩
          rw [hwz] at H2 ⊢
          clear hwz
          have kC0 := (cell_of_heap (Hd.nthk 2 H2.out rfl) 0).trans (show _ = some (.slice adD E2.length capD) from rfl)
          have kE0 := (cell_of_heap (Hd.nthk 1 H2.out rfl) 0).trans (show _ = some (.int .i64 pa) from rfl)
          have kE1 := (cell_of_heap (Hd.nthk 1 H2.out rfl) 1).trans (show _ = some (.int .i64 pk) from rfl)
          have kE2 := (cell_of_heap (Hd.nthk 1 H2.out rfl) 2).trans (show _ = some (.int .u64 px) from rfl)
          have kE3 := (cell_of_heap (Hd.nthk 1 H2.out rfl) 3).trans (show _ = some (.int .u64 py) from rfl)
          have kF0 := (cell_of_heap (Hd.nthk 0 H2.out rfl) 0).trans (show _ = some (.int .i64 pa) from rfl)
          have kF1 := (cell_of_heap (Hd.nthk 0 H2.out rfl) 1).trans (show _ = some (.int .i64 pk) from rfl)
          have kF2 := (cell_of_heap (Hd.nthk 0 H2.out rfl) 2).trans (show _ = some (.int .u64 px) from rfl)
          have kF3 := (cell_of_heap (Hd.nthk 0 H2.out rfl) 3).trans (show _ = some (.int .u64 py) from rfl)
          have HCd := hid (H2.out.front 7 rfl).ca
          have HLr := hid (H2.out.front 4 rfl).la
          have cf44 : ∀ args w, (callFunc 44 args).run Try.prog w = .ok (.enter 44 args) w := fun args w => by kernel_rfl
          have cf54 : ∀ args w, (callFunc 54 args).run Try.prog w = .ok (.enter 54 args) w := fun args w => by kernel_rfl
          have cf57 : ∀ args w, (callFunc 57 args).run Try.prog w = .ok (.enter 57 args) w := fun args w => by kernel_rfl
          have cf58 : ∀ args w, (callFunc 58 args).run Try.prog w = .ok (.enter 58 args) w := fun args w => by kernel_rfl
          have cf59 : ∀ args w, (callFunc 59 args).run Try.prog w = .ok (.enter 59 args) w := fun args w => by kernel_rfl
          have cf60 : ∀ args w, (callFunc 60 args).run Try.prog w = .ok (.enter 60 args) w := fun args w => by kernel_rfl
          refine wp_region_rel ([] :: [0] :: [] :: [1, 2] :: [3] :: [4] :: [5] :: [5, 6] :: [5] :: [5, 7, 8] :: [5, 9] :: [10] :: [11] :: [11] :: [11, 12, 13] :: [11, 14] :: [15] :: [16] :: [16, 17] :: [16] :: [16, 19] :: [16, 18, 20] :: [16, 21] :: [16, 22] :: []) (102 :: 103 :: 104 :: 105 :: 106 :: 107 :: 108 :: 109 :: 110 :: 111 :: 112 :: 113 :: 114 :: 115 :: 116 :: 117 :: 118 :: 119 :: 120 :: 121 :: 122 :: 123 :: 124 :: 125 :: []) (fun i v w => ((
              .is (.agg #[.slice adD E2.length capD]) ::
              .en E2 ::
              .en E2 ::
              .is (.bool true) ::
              .is (.bool false) ::
              .is (.bool false) ::
              .is (.agg #[.int .i64 pa, .int .i64 pk, .int .u64 px, .int .u64 py]) ::
              .is (.agg #[.int .i64 pa, .int .i64 pk, .int .u64 px, .int .u64 py]) ::
              .is (.agg #[.int .i64 pa, .int .i64 pk, .int .u64 px, .int .u64 py]) ::
              .is (.bool false) ::
              .is (.bool false) ::
              .is (.bool false) ::
              .is (.bool pb) ::
              .is (.bool pb) ::
              .is (.bool false) ::
              .is (.bool false) ::
              .is (.bool false) ::
              .is (.agg #[.slice adD E2.length capD]) ::
              .ints (kKeys E2) ::
              .en E2 ::
              .ints (kKeys E2) ::
              .is (.bool true) ::
              .is (.bool false) ::
              .is (.bool false) :: ([] : List Fact)).getD i .any).of v w) (by kernel_rfl) (by kernel_rfl) (fun d hd => Nat.lt_of_lt_of_eq (rel_lt (n := 127) (by decide) d hd) rfl) ?_ ?_ ?_ (fun t => decide (102 ≤ t) && decide (t ≤ 125)) (by decide) ?_
          · repeat (refine StepAll.cons (by first | exact trivial | exact fun v w h => h) ?_)
            exact trivial
          · intro i v w x h hb
            exact Fact.later h hb
          ·
            refine StepAll.cons ?_ ?_
            · intro a wx hn hr hb K hK
              have ec := evc a
              have e5 : a.eval (.tmp 5) = .pointer (some ⟨W.heap.size + 1, 0, none⟩) := (hr 5 (by decide)).trans rfl
              have c0 := bcl hb kC0
              exact rel_run (v := .agg #[.slice adD E2.length capD]) (by clear hn hr hK; generalize a.eval = ρ at *; simp [execOp, e5, c0, go_sem]) rfl (Below.refl _ _) hK
            refine StepAll.cons ?_ ?_
            · intro a wx hn hr hb K hK
              have ec := evc a
              have e102 : a.eval (.tmp 102) = .agg #[.slice adD E2.length capD] := hn 0 (by decide)
              have ef : a.eval (.func 58) = .func (.func 58) #[] #[] := rfl
              exact rel_call (by clear hn hr hK; generalize a.eval = ρ at *; simp [execOp, e102, cf58, ef, go_sem]) (refs_calls (HCd.out.later hb) (by omega)) hK
            refine StepAll.cons ?_ ?_
            · intro a wx hn hr hb K hK
              have ec := evc a
              have e6 : a.eval (.tmp 6) = .slice adR E2.length capR := (hr 6 (by decide)).trans rfl
              exact rel_run (v := .slice adR E2.length capR) (by clear hn hr hK; generalize a.eval = ρ at *; simp [execOp, e6, go_sem]) (HLr.out.later hb) (Below.refl _ _) hK
            refine StepAll.cons ?_ ?_
            · intro a wx hn hr hb K hK
              have ec := evc a
              obtain ⟨ad103, cp103, e103, i103, n103⟩ := (show LaAt wx (a.eval (.tmp 103)) E2 from hn 1 (by decide)).ex
              obtain ⟨ad104, cp104, e104, i104, n104⟩ := (show LaAt wx (a.eval (.tmp 104)) E2 from hn 2 (by decide)).ex
              have ef : a.eval (.func 57) = .func (.func 57) #[] #[] := rfl
              exact rel_call (by clear hn hr hK; generalize a.eval = ρ at *; simp [execOp, e103, e104, cf57, ef, go_sem]) ((rsame_calls (ca := cp103) (cb := cp104) i103 i104 rfl rfl (by omega) (by omega)).mono (fun e w2 h => ⟨.bool true, h.1.trans (by rw [show decide (E2 = E2) = true from decide_eq_true rfl]), rfl, h.2⟩)) hK
            refine StepAll.cons ?_ ?_
            · intro a wx hn hr hb K hK
              have ec := evc a
              have e105 : a.eval (.tmp 105) = .bool true := hn 3 (by decide)
              exact rel_run (v := .bool false) (by clear hn hr hK; generalize a.eval = ρ at *; simp [execOp, e105, go_sem]) rfl (Below.refl _ _) hK
            refine StepAll.cons ?_ ?_
            · intro a wx hn hr hb K hK
              have ec := evc a
              have e106 : a.eval (.tmp 106) = .bool false := hn 4 (by decide)
              exact rel_run (v := .bool false) (by clear hn hr hK; generalize a.eval = ρ at *; simp [execOp, e106, go_sem]) rfl (Below.refl _ _) hK
            refine StepAll.cons ?_ ?_
            · intro a wx hn hr hb K hK
              have ec := evc a
              have e16 : a.eval (.tmp 16) = .pointer (some ⟨w5.heap.size, 0, none⟩) := (hr 16 (by decide)).trans rfl
              have c0 := bcl hb kE0
              have c1 := bcl hb kE1
              have c2 := bcl hb kE2
              have c3 := bcl hb kE3
              exact rel_run (v := .agg #[.int .i64 pa, .int .i64 pk, .int .u64 px, .int .u64 py]) (by clear hn hr hK; generalize a.eval = ρ at *; simp [execOp, e16, c0, c1, c2, c3, go_sem]) rfl (Below.refl _ _) hK
            refine StepAll.cons ?_ ?_
            · intro a wx hn hr hb K hK
              have ec := evc a
              have e108 : a.eval (.tmp 108) = .agg #[.int .i64 pa, .int .i64 pk, .int .u64 px, .int .u64 py] := hn 6 (by decide)
              have ef : a.eval (.func 54) = .func (.func 54) #[] #[] := rfl
              exact rel_call (by clear hn hr hK; generalize a.eval = ρ at *; simp [execOp, e108, cf54, ef, go_sem]) ((one_calls pa pk px py wx).mono (fun e w2 h => ⟨_, h.1, rfl, h.2⟩)) hK
            refine StepAll.cons ?_ ?_
            · intro a wx hn hr hb K hK
              have ec := evc a
              have e18 : a.eval (.tmp 18) = .pointer (some ⟨w6.heap.size, 0, none⟩) := (hr 18 (by decide)).trans rfl
              have c0 := bcl hb kF0
              have c1 := bcl hb kF1
              have c2 := bcl hb kF2
              have c3 := bcl hb kF3
              exact rel_run (v := .agg #[.int .i64 pa, .int .i64 pk, .int .u64 px, .int .u64 py]) (by clear hn hr hK; generalize a.eval = ρ at *; simp [execOp, e18, c0, c1, c2, c3, go_sem]) rfl (Below.refl _ _) hK
            refine StepAll.cons ?_ ?_
            · intro a wx hn hr hb K hK
              have ec := evc a
              have e109 : a.eval (.tmp 109) = .agg #[.int .i64 pa, .int .i64 pk, .int .u64 px, .int .u64 py] := hn 7 (by decide)
              have e110 : a.eval (.tmp 110) = .agg #[.int .i64 pa, .int .i64 pk, .int .u64 px, .int .u64 py] := hn 8 (by decide)
              exact rel_run (v := .bool false) (by clear hn hr hK; generalize a.eval = ρ at *; simp [execOp, e109, e110, go_sem]) rfl (Below.refl _ _) hK
            refine StepAll.cons ?_ ?_
            · intro a wx hn hr hb K hK
              have ec := evc a
              have e107 : a.eval (.tmp 107) = .bool false := hn 5 (by decide)
              have e111 : a.eval (.tmp 111) = .bool false := hn 9 (by decide)
              exact rel_run (v := .bool false) (by clear hn hr hK; generalize a.eval = ρ at *; simp [execOp, e107, e111, go_sem]) rfl (Below.refl _ _) hK
            refine StepAll.cons ?_ ?_
            · intro a wx hn hr hb K hK
              have ec := evc a
              have e112 : a.eval (.tmp 112) = .bool false := hn 10 (by decide)
              exact rel_run (v := .bool false) (by clear hn hr hK; generalize a.eval = ρ at *; simp [execOp, e112, go_sem]) rfl (Below.refl _ _) hK
            refine StepAll.cons ?_ ?_
            · intro a wx hn hr hb K hK
              have ec := evc a
              have e17 : a.eval (.tmp 17) = .bool pb := (hr 17 (by decide)).trans rfl
              exact rel_run (v := .bool pb) (by clear hn hr hK; generalize a.eval = ρ at *; simp [execOp, e17, go_sem]) rfl (Below.refl _ _) hK
            refine StepAll.cons ?_ ?_
            · intro a wx hn hr hb K hK
              have ec := evc a
              have e19 : a.eval (.tmp 19) = .bool pb := (hr 19 (by decide)).trans rfl
              exact rel_run (v := .bool pb) (by clear hn hr hK; generalize a.eval = ρ at *; simp [execOp, e19, go_sem]) rfl (Below.refl _ _) hK
            refine StepAll.cons ?_ ?_
            · intro a wx hn hr hb K hK
              have ec := evc a
              have e114 : a.eval (.tmp 114) = .bool pb := hn 12 (by decide)
              have e115 : a.eval (.tmp 115) = .bool pb := hn 13 (by decide)
              exact rel_run (v := .bool false) (by clear hn hr hK; generalize a.eval = ρ at *; simp [execOp, e114, e115, go_sem]) rfl (Below.refl _ _) hK
            refine StepAll.cons ?_ ?_
            · intro a wx hn hr hb K hK
              have ec := evc a
              have e113 : a.eval (.tmp 113) = .bool false := hn 11 (by decide)
              have e116 : a.eval (.tmp 116) = .bool false := hn 14 (by decide)
              exact rel_run (v := .bool false) (by clear hn hr hK; generalize a.eval = ρ at *; simp [execOp, e113, e116, go_sem]) rfl (Below.refl _ _) hK
            refine StepAll.cons ?_ ?_
            · intro a wx hn hr hb K hK
              have ec := evc a
              have e117 : a.eval (.tmp 117) = .bool false := hn 15 (by decide)
              exact rel_run (v := .bool false) (by clear hn hr hK; generalize a.eval = ρ at *; simp [execOp, e117, go_sem]) rfl (Below.refl _ _) hK
            refine StepAll.cons ?_ ?_
            · intro a wx hn hr hb K hK
              have ec := evc a
              have e5 : a.eval (.tmp 5) = .pointer (some ⟨W.heap.size + 1, 0, none⟩) := (hr 5 (by decide)).trans rfl
              have c0 := bcl hb kC0
              exact rel_run (v := .agg #[.slice adD E2.length capD]) (by clear hn hr hK; generalize a.eval = ρ at *; simp [execOp, e5, c0, go_sem]) rfl (Below.refl _ _) hK
            refine StepAll.cons ?_ ?_
            · intro a wx hn hr hb K hK
              have ec := evc a
              have e119 : a.eval (.tmp 119) = .agg #[.slice adD E2.length capD] := hn 17 (by decide)
              have ef : a.eval (.func 59) = .func (.func 59) #[] #[] := rfl
              exact rel_call (by clear hn hr hK; generalize a.eval = ρ at *; simp [execOp, e119, cf59, ef, go_sem]) (keys_calls (HCd.out.later hb) (by omega)) hK
            refine StepAll.cons ?_ ?_
            · intro a wx hn hr hb K hK
              have ec := evc a
              have e6 : a.eval (.tmp 6) = .slice adR E2.length capR := (hr 6 (by decide)).trans rfl
              exact rel_run (v := .slice adR E2.length capR) (by clear hn hr hK; generalize a.eval = ρ at *; simp [execOp, e6, go_sem]) (HLr.out.later hb) (Below.refl _ _) hK
            refine StepAll.cons ?_ ?_
            · intro a wx hn hr hb K hK
              have ec := evc a
              obtain ⟨ad121, cp121, e121, i121, n121⟩ := (show LaAt wx (a.eval (.tmp 121)) E2 from hn 19 (by decide)).ex
              have ef : a.eval (.func 60) = .func (.func 60) #[] #[] := rfl
              exact rel_call (by clear hn hr hK; generalize a.eval = ρ at *; simp [execOp, e121, cf60, ef, go_sem]) (rkeys_calls ⟨ad121, cp121, rfl, i121, n121⟩ (by omega)) hK
            refine StepAll.cons ?_ ?_
            · intro a wx hn hr hb K hK
              have ec := evc a
              obtain ⟨ad120, cp120, e120, i120⟩ := (show NsAt wx (a.eval (.tmp 120)) (kKeys E2) from hn 18 (by decide)).ex
              obtain ⟨ad122, cp122, e122, i122⟩ := (show NsAt wx (a.eval (.tmp 122)) (kKeys E2) from hn 20 (by decide)).ex
              have ef : a.eval (.func 44) = .func (.func 44) #[] #[] := rfl
              exact rel_call (by clear hn hr hK; generalize a.eval = ρ at *; simp [execOp, e120, e122, cf44, ef, go_sem]) ((same_calls (c1 := cp120) (c2 := cp122) i120 i122 rfl rfl (by rw [kKeys, List.length_map]; omega) (by rw [kKeys, List.length_map]; omega)).mono (fun e w2 h => ⟨.bool true, h.1.trans (by rw [show decide (kKeys E2 = kKeys E2) = true from decide_eq_true rfl]), rfl, h.2⟩)) hK
            refine StepAll.cons ?_ ?_
            · intro a wx hn hr hb K hK
              have ec := evc a
              have e123 : a.eval (.tmp 123) = .bool true := hn 21 (by decide)
              exact rel_run (v := .bool false) (by clear hn hr hK; generalize a.eval = ρ at *; simp [execOp, e123, go_sem]) rfl (Below.refl _ _) hK
            refine StepAll.cons ?_ ?_
            · intro a wx hn hr hb K hK
              have ec := evc a
              have e118 : a.eval (.tmp 118) = .bool false := hn 16 (by decide)
              have e124 : a.eval (.tmp 124) = .bool false := hn 22 (by decide)
              exact rel_run (v := .bool false) (by clear hn hr hK; generalize a.eval = ρ at *; simp [execOp, e118, e124, go_sem]) rfl (Below.refl _ _) hK
            exact trivial
          intro f w9 hv hb
          have er : f 125 = .bool false := hv 23 (by decide)
          clear hv kC0 kE0 kF0 kE1 kF1 kE2 kF2 kE3 kF3
          simp only [patchG, Nat.reduceAdd, Nat.reduceLeDiff, decide_true, decide_false, Bool.and_true, Bool.and_false, cond_true, cond_false, er]
          have H := hid (H2.out.still hb)
          clear H2 hb HCd HLr
          go_wp2_with fail
          go_roundw
          case rel => exact ⟨j + 1, .slice adR E2.length capR, .slice adD E2.length capD, E2, by omega, by omega, by go_num, rfl, HR2, by omega, hid (Hd.dropEnd (Rs := [CaR (.slice adR E2.length capR) E2, CaR (.slice adD E2.length capD) E2, Blk (W.heap.size + 1) (.cells #[.slice adD E2.length capD] 85 (0, 0))]) (((H.out.front 2 rfl).front 7 rfl).front 5 rfl))⟩
          case measure => simp [intOf]; omega
    · have hfix := fixed16_calls wo
      have HF := hid hfix
      clear hfix
      by_cases h1 : j < len0
      · have d1 : decide ((j : Int) < (len0 : Int)) = true := by simp; omega
        have d1' : decide (j < len0) = true := by simp; omega
        have d2 : decide ((j : Int) < 40) = false := by simp; omega
        have d2' : decide (j < 40) = false := by simp; omega
        clear hgo h1
        go_wp2_with fail
        refine HF.out.mono ?_
        rintro e w1 ⟨rfl, hb⟩
        go_wp2_with fail
        go_ret
        exact ⟨rfl, H.out.below.trans (hb.mono H.out.below.size)⟩
      · have d1 : decide ((j : Int) < (len0 : Int)) = false := by simp; omega
        have d1' : decide (j < len0) = false := by simp; omega
        clear hgo h1
        go_wp2_with fail
        refine HF.out.mono ?_
        rintro e w1 ⟨rfl, hb⟩
        go_wp2_with fail
        go_ret
        exact ⟨rfl, H.out.below.trans (hb.mono H.out.below.size)⟩
end Go.Proofs.Ytbaliaodioflfaa
