/-
  SkipLeast returns true, and writes nothing that was there. For every input.
-/
import Derived.Test.YtbaliaodioflfaaSkipT
namespace Go.Proofs.Ytbaliaodioflfaa
open Go.RowKit

/-- The epoch's entry. -/
def lent (k : Int) : En := ⟨100 + k, k, 0, 0⟩
/-- What is kept behind i rounds. -/
def lst : Nat → List En
  | 0 => []
  | 1 => [lent 1]
  | 2 => [lent 1, lent 2]
  | 3 => [lent 1, lent 2, lent 3]
  | n + 4 => [lent ((n : Int) + 1), lent ((n : Int) + 2), lent ((n : Int) + 3), lent ((n : Int) + 4)]

theorem lst_rises : ∀ i : Nat, Rises (lst i)
  | 0 => rises_of (by decide)
  | 1 => rises_of (by decide)
  | 2 => rises_of (by decide)
  | 3 => rises_of (by decide)
  | n + 4 => rises_of (by simp [lst, lent])
theorem lst_le : ∀ i : Nat, (lst i).length ≤ 4
  | 0 => by decide
  | 1 => by decide
  | 2 => by decide
  | 3 => by decide
  | n + 4 => Nat.le_refl _
theorem ins_end_of {es : List En} {e : En} (h : ∀ x ∈ es, x.ep < e.ep) : ins es e = es ++ [e] := by
  unfold ins below above
  rw [List.filter_eq_self.2 (fun x hx => by simpa using h x hx), List.filter_eq_nil_iff.2 (fun x hx => by have := h x hx; simp; omega)]
theorem ins_front_of {es : List En} {e : En} (h : ∀ x ∈ es, e.ep < x.ep) : ins es e = e :: es := by
  unfold ins below above
  rw [List.filter_eq_nil_iff.2 (fun x hx => by have := h x hx; simp; omega), List.filter_eq_self.2 (fun x hx => by simpa using h x hx)]
  rfl
theorem put_lst : ∀ i : Nat, kPut (lst i) ⟨100 + ((i + 1 : Nat) : Int), ((i + 1 : Nat) : Int), 0, 0⟩ = if i + 1 ≤ 4 then (lst (i + 1), En.zero, false) else (lst (i + 1), ⟨96 + ((i + 1 : Nat) : Int), ((i + 1 : Nat) : Int) - 4, 0, 0⟩, true)
  | 0 => by rfl
  | 1 => by rfl
  | 2 => by rfl
  | 3 => by rfl
  | n + 4 => by
    rw [kPut_eq (lst_rises _) (lst_le _)]
    unfold rPut
    rw [ins_end_of (by simp [lst, lent]; omega)]
    rw [if_neg (by simp [lst]), if_neg (by omega)]
    refine Prod.ext ?_ (Prod.ext ?_ rfl)
    · simp [lst, lent]; omega
    · simp [lst, lent]; omega
theorem put_low (n : Nat) (x : Int) (h : x ≤ 100) : kPut (lst (n + 4)) ⟨x, 9, 0, 0⟩ = (lst (n + 4), ⟨x, 9, 0, 0⟩, true) := by
  rw [kPut_eq (lst_rises _) (lst_le _)]
  unfold rPut
  rw [ins_front_of (by simp [lst, lent]; omega)]
  rw [if_neg (by simp [lst])]
  rfl
theorem keys_lst (n : Nat) : kKeys (lst (n + 4)) = [(n : Int) + 1, (n : Int) + 2, (n : Int) + 3, (n : Int) + 4] := rfl

set_option maxRecDepth 100000 in
set_option maxHeartbeats 16000000 in
theorem skipLeast_walk (x0 : Int) (b0 : 0 ≤ x0) (b0' : x0 ≤ 255) (x1 : Int) (b1 : 0 ≤ x1) (b1' : x1 ≤ 255) (W : World) :
    Calls Try.prog 20 #[.int .u8 x0, .int .u8 x1] W fun e w' => e = .returned (.bool true) ∧ Below W.heap.size W w' := by
  have mixed : Try.prog.follows .mixedOrders = true := by kernel_rfl
  have H0 := hid ((Hd.refl W).boxk (o := .cells #[.slice none 0 0] 85 (0, 0)) W.heap.size rfl |>.addCaNil)
  obtain ⟨many, hmm⟩ : ∃ many : Nat, x0 % 20 = (many : Int) := ⟨(x0 % 20).toNat, by omega⟩
  have hm24 : many ≤ 19 := by omega
  obtain ⟨M, hM⟩ : ∃ M : Int, 5 + x0 % 20 = M := ⟨_, rfl⟩
  have hM5 : 5 ≤ M := by omega
  have hM24 : M ≤ 24 := by omega
  have HMm := hid (show M = (many : Int) + 5 by omega)
  clear hmm
  go_enter Try.func20, Try.ntmps20
  go_wp2_with fail
  have HM := hid hM
  clear hM
  go_loopw [7] (fun i wr => ∃ (j : Nat) (v : Value), j ≤ many + 5 ∧ i = .int .i64 ((j + 1 : Nat) : Int) ∧ Hid (Hd W wr [CaR v (lst j), Blk W.heap.size (.cells #[v] 85 (0, 0))])) (fun i _ => many + 6 - (intOf i).toNat)
  case atStart => exact ⟨0, _, Nat.zero_le _, rfl, H0⟩
  case round =>
    clear H0
    obtain ⟨j, v, hj, rfl, H⟩ := hrel
    obtain ⟨wo, hwo⟩ : ∃ wo : World, wo = wr := ⟨_, rfl⟩
    rw [← hwo] at H ⊢
    clear hwo wr
    obtain ⟨av, cv, rfl⟩ := H.out.ca_form
    by_cases hgo : j + 1 ≤ many + 5
    · by_cases h4 : j + 1 ≤ 4
      · skip
        have hput := put_lst j
        rw [if_pos (by omega)] at hput
        have HP := hid hput
        clear hput
        have hl4 := lst_le j
        have hk := Hd.nthk 1 H.out rfl
        have c0 := (cell_of_heap hk 0).trans (show _ = some (.slice av (lst j).length cv) from rfl)
        have cs := (Array.getElem?_eq_some_iff.1 hk).1
        have cf := frozen_of_heap hk
        clear hk
        obtain ⟨L, hL⟩ : ∃ L, lst (j + 1) = L := ⟨_, rfl⟩
        rw [hL] at HP
        have HL := hid hL
        clear hL
        obtain ⟨J, hJ⟩ : ∃ J : Int, ((j + 1 : Nat) : Int) = J := ⟨_, rfl⟩
        have hj1 : 1 ≤ J := by omega
        have hj2 : J ≤ 24 := by omega
        have d1 : decide (J ≤ M) = true := by have := HMm.out; simp only [decide_eq_true_eq]; omega
        have d2 : decide ((4 : Int) < J) = false := by simp; omega
        rw [hJ] at HP ⊢
        have HJ := hid hJ
        clear hJ
        have hne := neq_E En.zero En.zero
        rw [show decide (En.zero = En.zero) = true from rfl] at hne
        dsimp only [En.zero] at hne
        clear hj
        go_wp2_with fail
        refine (put16_is (100 + J) J 0 0 HP.out (lst_rises j) (by omega) H.out.ca H.out).mono ?_
        rintro e w2 ⟨adD, capD, rfl, hd⟩
        clear H c0 cs cf
        have H := hid hd
        clear hd
        have hk := Hd.nthk 2 H.out rfl
        have c0 := (cell_of_heap hk 0).trans (show _ = some (.slice av (lst j).length cv) from rfl)
        have cs := (Array.getElem?_eq_some_iff.1 hk).1
        have cf := frozen_of_heap hk
        clear hk
        go_wp2_with fail
        have H9 := hid ((((H.out.front 2 rfl).set 0 (.slice adD L.length capD)).front 1 rfl))
        clear H c0 cs cf
        have H := H9
        clear H9
        go_roundw
        case rel => exact ⟨j + 1, _, by omega, by rw [← HJ.out]; go_num, hid (by rw [HL.out]; exact (Hd.dropEnd (Rs := [CaR (.slice adD L.length capD) L, Blk W.heap.size (.cells #[.slice adD L.length capD] 85 (0, 0))]) H.out).al.al)⟩
        case measure => rw [← HJ.out]; simp [intOf]; omega
      · skip
        have hput := put_lst j
        rw [if_neg (by omega)] at hput
        have HP := hid hput
        clear hput
        have hl4 := lst_le j
        have hk := Hd.nthk 1 H.out rfl
        have c0 := (cell_of_heap hk 0).trans (show _ = some (.slice av (lst j).length cv) from rfl)
        have cs := (Array.getElem?_eq_some_iff.1 hk).1
        have cf := frozen_of_heap hk
        clear hk
        obtain ⟨L, hL⟩ : ∃ L, lst (j + 1) = L := ⟨_, rfl⟩
        rw [hL] at HP
        have HL := hid hL
        clear hL
        obtain ⟨J, hJ⟩ : ∃ J : Int, ((j + 1 : Nat) : Int) = J := ⟨_, rfl⟩
        have hj1 : 1 ≤ J := by omega
        have hj2 : J ≤ 24 := by omega
        have d1 : decide (J ≤ M) = true := by have := HMm.out; simp only [decide_eq_true_eq]; omega
        have d2 : decide ((4 : Int) < J) = true := by simp; omega
        rw [hJ] at HP ⊢
        have HJ := hid hJ
        clear hJ
        have hne := neq_E ⟨96 + J, J - 4, 0, 0⟩ ⟨96 + J, J - 4, 0, 0⟩
        rw [show decide ((⟨96 + J, J - 4, 0, 0⟩ : En) = ⟨96 + J, J - 4, 0, 0⟩) = true from decide_eq_true rfl] at hne
        dsimp only [Bool.not_true] at hne
        clear hj
        go_wp2_with fail
        refine (put16_is (100 + J) J 0 0 HP.out (lst_rises j) (by omega) H.out.ca H.out).mono ?_
        rintro e w2 ⟨adD, capD, rfl, hd⟩
        clear H c0 cs cf
        have H := hid hd
        clear hd
        have hk := Hd.nthk 2 H.out rfl
        have c0 := (cell_of_heap hk 0).trans (show _ = some (.slice av (lst j).length cv) from rfl)
        have cs := (Array.getElem?_eq_some_iff.1 hk).1
        have cf := frozen_of_heap hk
        clear hk
        go_wp2_with fail
        have H9 := hid ((((H.out.front 2 rfl).set 0 (.slice adD L.length capD)).front 1 rfl))
        clear H c0 cs cf
        have H := H9
        clear H9
        go_roundw
        case rel => exact ⟨j + 1, _, by omega, by rw [← HJ.out]; go_num, hid (by rw [HL.out]; exact (Hd.dropEnd (Rs := [CaR (.slice adD L.length capD) L, Blk W.heap.size (.cells #[.slice adD L.length capD] 85 (0, 0))]) H.out).al.al)⟩
        case measure => rw [← HJ.out]; simp [intOf]; omega
    · obtain rfl : j = many + 5 := by omega
      clear hgo hj
      obtain ⟨J, hJ⟩ : ∃ J : Int, ((many + 5 + 1 : Nat) : Int) = J := ⟨_, rfl⟩
      have hj1 : J ≤ 25 := by omega
      have hj2 : 1 ≤ J := by omega
      have d1 : decide (J ≤ M) = false := by have := HMm.out; simp only [decide_eq_false_iff_not]; omega
      rw [hJ]
      clear hJ
      have x5 : 0 ≤ x1 % 101 := by omega
      have x6 : x1 % 101 ≤ 100 := by omega
      have HP := hid (put_low (many + 1) (x1 % 101) x6)
      have hk := Hd.nthk 1 H.out rfl
      have c0 := (cell_of_heap hk 0).trans (show _ = some (.slice av (lst (many + 5)).length cv) from rfl)
      have cs := (Array.getElem?_eq_some_iff.1 hk).1
      have cf := frozen_of_heap hk
      clear hk
      go_wp2_with fail
      refine (put16_is (x1 % 101) 9 0 0 HP.out (lst_rises _) (by have := lst_le (many + 1 + 4); omega) H.out.ca H.out).mono ?_
      rintro e w2 ⟨adD, capD, rfl, hd⟩
      clear H c0 cs cf
      have H := hid hd
      clear hd
      have hk := Hd.nthk 2 H.out rfl
      have c0 := (cell_of_heap hk 0).trans (show _ = some (.slice av (lst (many + 5)).length cv) from rfl)
      have cs := (Array.getElem?_eq_some_iff.1 hk).1
      clear hk
      go_wp2_with fail
      have H9 := hid ((H.out.boxk (o := .cells #[.slice adD (lst (many + 1 + 4)).length capD] 85 (0, 0)) w2.heap.size rfl).boxk (o := .cells #[.int .i64 (x1 % 101), .int .i64 9, .int .u64 0, .int .u64 0] 91 (0, 0)) (w2.heap.size + 1) (by simp))
      clear H c0 cs
      have H := H9
      clear H9
      obtain ⟨wz, hwz⟩ : ∃ wz, (w2.alloc (.cells #[.slice adD (lst (many + 1 + 4)).length capD] 85 (0, 0))).alloc (.cells #[.int .i64 (x1 % 101), .int .i64 9, .int .u64 0, .int .u64 0] 91 (0, 0)) = wz := ⟨_, rfl⟩
      rw [hwz] at H ⊢
      clear hwz
      have kC0 := (cell_of_heap (Hd.nthk 4 H.out rfl) 0).trans (show _ = some (.slice av (lst (many + 5)).length cv) from rfl)
      have kD0 := (cell_of_heap (Hd.nthk 1 H.out rfl) 0).trans (show _ = some (.slice adD (lst (many + 1 + 4)).length capD) from rfl)
      have kE0 := (cell_of_heap (Hd.nthk 0 H.out rfl) 0).trans (show _ = some (.int .i64 (x1 % 101)) from rfl)
      have kE1 := (cell_of_heap (Hd.nthk 0 H.out rfl) 1).trans (show _ = some (.int .i64 9) from rfl)
      have kE2 := (cell_of_heap (Hd.nthk 0 H.out rfl) 2).trans (show _ = some (.int .u64 0) from rfl)
      have kE3 := (cell_of_heap (Hd.nthk 0 H.out rfl) 3).trans (show _ = some (.int .u64 0) from rfl)
      have HC1 := hid (H.out.front 3 rfl).ca
      have HC2 := hid (H.out.front 2 rfl).ca
      have HK := hid (show kKeys (lst (many + 5)) = [(M - 3), (M - 2), (M - 1), M] by rw [show many + 5 = many + 1 + 4 from rfl, keys_lst, HMm.out]; simp; omega)
      have hl5 := lst_le (many + 5)
      have HF := hid fixed16_calls
      have hl6 := lst_le (many + 1 + 4)
      have hcx : IntKind.i64.wrap x1 = x1 := IntWalk.i64_in _ (by omega)
      have hrx : x1.tmod 101 = x1 % 101 := Int.tmod_eq_emod_of_nonneg b1
      have hw1 : IntKind.i64.wrap (M - 1) = M - 1 := IntWalk.i64_in _ (by omega)
      have hw2 : IntKind.i64.wrap (M - 2) = M - 2 := IntWalk.i64_in _ (by omega)
      have hw3 : IntKind.i64.wrap (M - 3) = M - 3 := IntWalk.i64_in _ (by omega)
      have cf44 : ∀ args w, (callFunc 44 args).run Try.prog w = .ok (.enter 44 args) w := fun args w => by kernel_rfl
      have cf59 : ∀ args w, (callFunc 59 args).run Try.prog w = .ok (.enter 59 args) w := fun args w => by kernel_rfl
      have cf61 : ∀ args w, (callFunc 61 args).run Try.prog w = .ok (.enter 61 args) w := fun args w => by kernel_rfl
      refine wp_region_rel ([] :: [0] :: [] :: [2] :: [] :: [4] :: [] :: [6] :: [] :: [3, 5, 7, 8] :: [1, 9] :: [10] :: [11] :: [11, 12] :: [11] :: [11, 14] :: [11, 13, 15] :: [11, 16] :: [17] :: [18] :: [18, 19] :: [20] :: [21] :: [21] :: [21, 23] :: [21, 24] :: [21, 25] :: [21, 22, 26] :: [21, 27] :: [28] :: [29] :: [29, 30] :: [31] :: []) (70 :: 71 :: 72 :: 73 :: 74 :: 75 :: 76 :: 77 :: 78 :: 79 :: 80 :: 81 :: 82 :: 83 :: 84 :: 85 :: 86 :: 87 :: 88 :: 89 :: 90 :: 91 :: 92 :: 93 :: 94 :: 95 :: 96 :: 97 :: 98 :: 99 :: 100 :: 101 :: 4 :: []) (fun i v w => ((
          .is (.agg #[.slice av (lst (many + 5)).length cv]) ::
          .ints (kKeys (lst (many + 5))) ::
          .is (.int .i64 M) ::
          .is (.int .i64 (M - 3)) ::
          .is (.int .i64 M) ::
          .is (.int .i64 (M - 2)) ::
          .is (.int .i64 M) ::
          .is (.int .i64 (M - 1)) ::
          .is (.int .i64 M) ::
          .ints [(M - 3), (M - 2), (M - 1), M] ::
          .is (.bool true) ::
          .is (.bool true) ::
          .is (.agg #[.slice adD (lst (many + 1 + 4)).length capD]) ::
          .ints (kKeys (lst (many + 5))) ::
          .is (.agg #[.slice av (lst (many + 5)).length cv]) ::
          .ints (kKeys (lst (many + 5))) ::
          .is (.bool true) ::
          .is (.bool true) ::
          .is (.bool true) ::
          .is (.bool true) ::
          .is (.bool true) ::
          .is (.bool true) ::
          .is (.agg #[.int .i64 (x1 % 101), .int .i64 9, .int .u64 0, .int .u64 0]) ::
          .is (.int .u8 x1) ::
          .is (.int .i64 x1) ::
          .is (.int .i64 (x1 % 101)) ::
          .is (.agg #[.int .i64 (x1 % 101), .int .i64 9, .int .u64 0, .int .u64 0]) ::
          .is (.bool true) ::
          .is (.bool true) ::
          .is (.bool true) ::
          .is (.bool true) ::
          .is (.bool true) ::
          .is (.bool true) :: ([] : List Fact)).getD i .any).of v w) (by kernel_rfl) (by kernel_rfl) (fun d hd => Nat.lt_of_lt_of_eq (rel_lt (n := 102) (by decide) d hd) rfl) ?_ ?_ ?_ (fun t => t == 4 || (decide (70 ≤ t) && decide (t ≤ 101))) (by decide) ?_
      · repeat (refine StepAll.cons (by first | exact trivial | exact fun v w h => h) ?_)
        exact trivial
      · intro i v w x h hb
        exact Fact.later h hb
      ·
        refine StepAll.cons ?_ ?_
        · intro a wx hn hr hb K hK
          have ec := evc a
          have e5 : a.eval (.tmp 5) = .pointer (some ⟨W.heap.size, 0, none⟩) := (hr 5 (by decide)).trans rfl
          have c0 := bcl hb kC0
          exact rel_run (v := .agg #[.slice av (lst (many + 5)).length cv]) (by clear hn hr hK; generalize a.eval = ρ at *; simp [execOp, e5, c0, go_sem]) rfl (Below.refl _ _) hK
        refine StepAll.cons ?_ ?_
        · intro a wx hn hr hb K hK
          have ec := evc a
          have e70 : a.eval (.tmp 70) = .agg #[.slice av (lst (many + 5)).length cv] := hn 0 (by decide)
          have ef : a.eval (.func 59) = .func (.func 59) #[] #[] := rfl
          exact rel_call (by clear hn hr hK; generalize a.eval = ρ at *; simp [execOp, e70, cf59, ef, go_sem]) (keys_calls (HC1.out.later hb) (by omega)) hK
        refine StepAll.cons ?_ ?_
        · intro a wx hn hr hb K hK
          have ec := evc a
          have e6 : a.eval (.tmp 6) = .int .i64 M := (hr 6 (by decide)).trans rfl
          exact rel_run (v := .int .i64 M) (by clear hn hr hK; generalize a.eval = ρ at *; simp [execOp, e6, go_sem]) rfl (Below.refl _ _) hK
        refine StepAll.cons ?_ ?_
        · intro a wx hn hr hb K hK
          have ec := evc a
          have e72 : a.eval (.tmp 72) = .int .i64 M := hn 2 (by decide)
          exact rel_run (v := .int .i64 (M - 3)) (by clear hn hr hK; generalize a.eval = ρ at *; simp [execOp, ec, e72, hw3, go_sem]) rfl (Below.refl _ _) hK
        refine StepAll.cons ?_ ?_
        · intro a wx hn hr hb K hK
          have ec := evc a
          have e6 : a.eval (.tmp 6) = .int .i64 M := (hr 6 (by decide)).trans rfl
          exact rel_run (v := .int .i64 M) (by clear hn hr hK; generalize a.eval = ρ at *; simp [execOp, e6, go_sem]) rfl (Below.refl _ _) hK
        refine StepAll.cons ?_ ?_
        · intro a wx hn hr hb K hK
          have ec := evc a
          have e74 : a.eval (.tmp 74) = .int .i64 M := hn 4 (by decide)
          exact rel_run (v := .int .i64 (M - 2)) (by clear hn hr hK; generalize a.eval = ρ at *; simp [execOp, ec, e74, hw2, go_sem]) rfl (Below.refl _ _) hK
        refine StepAll.cons ?_ ?_
        · intro a wx hn hr hb K hK
          have ec := evc a
          have e6 : a.eval (.tmp 6) = .int .i64 M := (hr 6 (by decide)).trans rfl
          exact rel_run (v := .int .i64 M) (by clear hn hr hK; generalize a.eval = ρ at *; simp [execOp, e6, go_sem]) rfl (Below.refl _ _) hK
        refine StepAll.cons ?_ ?_
        · intro a wx hn hr hb K hK
          have ec := evc a
          have e76 : a.eval (.tmp 76) = .int .i64 M := hn 6 (by decide)
          exact rel_run (v := .int .i64 (M - 1)) (by clear hn hr hK; generalize a.eval = ρ at *; simp [execOp, ec, e76, hw1, go_sem]) rfl (Below.refl _ _) hK
        refine StepAll.cons ?_ ?_
        · intro a wx hn hr hb K hK
          have ec := evc a
          have e6 : a.eval (.tmp 6) = .int .i64 M := (hr 6 (by decide)).trans rfl
          exact rel_run (v := .int .i64 M) (by clear hn hr hK; generalize a.eval = ρ at *; simp [execOp, e6, go_sem]) rfl (Below.refl _ _) hK
        refine StepAll.cons ?_ ?_
        · intro a wx hn hr hb K hK
          have ec := evc a
          have e73 : a.eval (.tmp 73) = .int .i64 (M - 3) := hn 3 (by decide)
          have e75 : a.eval (.tmp 75) = .int .i64 (M - 2) := hn 5 (by decide)
          have e77 : a.eval (.tmp 77) = .int .i64 (M - 1) := hn 7 (by decide)
          have e78 : a.eval (.tmp 78) = .int .i64 M := hn 8 (by decide)
          exact rel_run (v := .slice (some ⟨wx.heap.size, 0, none⟩) 4 4) (w' := wx.alloc (.cells #[.int .i64 (M - 3), .int .i64 (M - 2), .int .i64 (M - 1), .int .i64 M] 3 (0, 0))) (by clear hn hr hK; generalize a.eval = ρ at *; simp [execOp, e73, e75, e77, e78, go_sem]) ⟨_, _, rfl, ints_lit [(M - 3), (M - 2), (M - 1), M] rfl⟩ ((Below.refl _ _).alloc (Nat.le_refl _) _) hK
        refine StepAll.cons ?_ ?_
        · intro a wx hn hr hb K hK
          have ec := evc a
          obtain ⟨ad71, cp71, e71, i71⟩ := (show NsAt wx (a.eval (.tmp 71)) (kKeys (lst (many + 5))) from hn 1 (by decide)).ex
          obtain ⟨ad79, cp79, e79, i79⟩ := (show NsAt wx (a.eval (.tmp 79)) [(M - 3), (M - 2), (M - 1), M] from hn 9 (by decide)).ex
          have ef : a.eval (.func 44) = .func (.func 44) #[] #[] := rfl
          exact rel_call (by clear hn hr hK; generalize a.eval = ρ at *; simp [execOp, e71, e79, cf44, ef, go_sem]) ((same_calls (c1 := cp71) (c2 := cp79) i71 i79 rfl rfl (by simp only [kKeys, List.length_map]; omega) (by simp only [List.length_cons, List.length_nil]; omega)).mono (fun e w2 h => ⟨.bool true, h.1.trans (by rw [show decide (((kKeys (lst (many + 5))) : List Int) = [(M - 3), (M - 2), (M - 1), M]) = true from decide_eq_true HK.out]), rfl, h.2⟩)) hK
        refine StepAll.cons ?_ ?_
        · intro a wx hn hr hb K hK
          have ec := evc a
          have e80 : a.eval (.tmp 80) = .bool true := hn 10 (by decide)
          exact rel_run (v := .bool true) (by clear hn hr hK; generalize a.eval = ρ at *; simp [execOp, e80, go_sem]) rfl (Below.refl _ _) hK
        refine StepAll.cons ?_ ?_
        · intro a wx hn hr hb K hK
          have ec := evc a
          have e11 : a.eval (.tmp 11) = .pointer (some ⟨w2.heap.size, 0, none⟩) := (hr 11 (by decide)).trans rfl
          have c0 := bcl hb kD0
          exact rel_run (v := .agg #[.slice adD (lst (many + 1 + 4)).length capD]) (by clear hn hr hK; generalize a.eval = ρ at *; simp [execOp, e11, c0, go_sem]) rfl (Below.refl _ _) hK
        refine StepAll.cons ?_ ?_
        · intro a wx hn hr hb K hK
          have ec := evc a
          have e82 : a.eval (.tmp 82) = .agg #[.slice adD (lst (many + 1 + 4)).length capD] := hn 12 (by decide)
          have ef : a.eval (.func 59) = .func (.func 59) #[] #[] := rfl
          exact rel_call (by clear hn hr hK; generalize a.eval = ρ at *; simp [execOp, e82, cf59, ef, go_sem]) (keys_calls (HC2.out.later hb) (by omega)) hK
        refine StepAll.cons ?_ ?_
        · intro a wx hn hr hb K hK
          have ec := evc a
          have e5 : a.eval (.tmp 5) = .pointer (some ⟨W.heap.size, 0, none⟩) := (hr 5 (by decide)).trans rfl
          have c0 := bcl hb kC0
          exact rel_run (v := .agg #[.slice av (lst (many + 5)).length cv]) (by clear hn hr hK; generalize a.eval = ρ at *; simp [execOp, e5, c0, go_sem]) rfl (Below.refl _ _) hK
        refine StepAll.cons ?_ ?_
        · intro a wx hn hr hb K hK
          have ec := evc a
          have e84 : a.eval (.tmp 84) = .agg #[.slice av (lst (many + 5)).length cv] := hn 14 (by decide)
          have ef : a.eval (.func 59) = .func (.func 59) #[] #[] := rfl
          exact rel_call (by clear hn hr hK; generalize a.eval = ρ at *; simp [execOp, e84, cf59, ef, go_sem]) (keys_calls (HC1.out.later hb) (by omega)) hK
        refine StepAll.cons ?_ ?_
        · intro a wx hn hr hb K hK
          have ec := evc a
          obtain ⟨ad83, cp83, e83, i83⟩ := (show NsAt wx (a.eval (.tmp 83)) (kKeys (lst (many + 5))) from hn 13 (by decide)).ex
          obtain ⟨ad85, cp85, e85, i85⟩ := (show NsAt wx (a.eval (.tmp 85)) (kKeys (lst (many + 5))) from hn 15 (by decide)).ex
          have ef : a.eval (.func 44) = .func (.func 44) #[] #[] := rfl
          exact rel_call (by clear hn hr hK; generalize a.eval = ρ at *; simp [execOp, e83, e85, cf44, ef, go_sem]) ((same_calls (c1 := cp83) (c2 := cp85) i83 i85 rfl rfl (by simp only [kKeys, List.length_map]; omega) (by simp only [kKeys, List.length_map]; omega)).mono (fun e w2 h => ⟨.bool true, h.1.trans (by rw [show decide (((kKeys (lst (many + 5))) : List Int) = (kKeys (lst (many + 5)))) = true from decide_eq_true rfl]), rfl, h.2⟩)) hK
        refine StepAll.cons ?_ ?_
        · intro a wx hn hr hb K hK
          have ec := evc a
          have e81 : a.eval (.tmp 81) = .bool true := hn 11 (by decide)
          have e86 : a.eval (.tmp 86) = .bool true := hn 16 (by decide)
          exact rel_run (v := .bool true) (by clear hn hr hK; generalize a.eval = ρ at *; simp [execOp, e81, e86, go_sem]) rfl (Below.refl _ _) hK
        refine StepAll.cons ?_ ?_
        · intro a wx hn hr hb K hK
          have ec := evc a
          have e87 : a.eval (.tmp 87) = .bool true := hn 17 (by decide)
          exact rel_run (v := .bool true) (by clear hn hr hK; generalize a.eval = ρ at *; simp [execOp, e87, go_sem]) rfl (Below.refl _ _) hK
        refine StepAll.cons ?_ ?_
        · intro a wx hn hr hb K hK
          have ec := evc a
          have e13 : a.eval (.tmp 13) = .bool true := (hr 13 (by decide)).trans rfl
          exact rel_run (v := .bool true) (by clear hn hr hK; generalize a.eval = ρ at *; simp [execOp, e13, go_sem]) rfl (Below.refl _ _) hK
        refine StepAll.cons ?_ ?_
        · intro a wx hn hr hb K hK
          have ec := evc a
          have e88 : a.eval (.tmp 88) = .bool true := hn 18 (by decide)
          have e89 : a.eval (.tmp 89) = .bool true := hn 19 (by decide)
          exact rel_run (v := .bool true) (by clear hn hr hK; generalize a.eval = ρ at *; simp [execOp, e88, e89, go_sem]) rfl (Below.refl _ _) hK
        refine StepAll.cons ?_ ?_
        · intro a wx hn hr hb K hK
          have ec := evc a
          have e90 : a.eval (.tmp 90) = .bool true := hn 20 (by decide)
          exact rel_run (v := .bool true) (by clear hn hr hK; generalize a.eval = ρ at *; simp [execOp, e90, go_sem]) rfl (Below.refl _ _) hK
        refine StepAll.cons ?_ ?_
        · intro a wx hn hr hb K hK
          have ec := evc a
          have e12 : a.eval (.tmp 12) = .pointer (some ⟨w2.heap.size + 1, 0, none⟩) := (hr 12 (by decide)).trans rfl
          have c0 := bcl hb kE0
          have c1 := bcl hb kE1
          have c2 := bcl hb kE2
          have c3 := bcl hb kE3
          exact rel_run (v := .agg #[.int .i64 (x1 % 101), .int .i64 9, .int .u64 0, .int .u64 0]) (by clear hn hr hK; generalize a.eval = ρ at *; simp [execOp, e12, c0, c1, c2, c3, go_sem]) rfl (Below.refl _ _) hK
        refine StepAll.cons ?_ ?_
        · intro a wx hn hr hb K hK
          have ec := evc a
          have e1 : a.eval (.tmp 1) = .int .u8 x1 := (hr 1 (by decide)).trans rfl
          exact rel_run (v := .int .u8 x1) (by clear hn hr hK; generalize a.eval = ρ at *; simp [execOp, e1, go_sem]) rfl (Below.refl _ _) hK
        refine StepAll.cons ?_ ?_
        · intro a wx hn hr hb K hK
          have ec := evc a
          have e93 : a.eval (.tmp 93) = .int .u8 x1 := hn 23 (by decide)
          exact rel_run (v := .int .i64 x1) (by clear hn hr hK; generalize a.eval = ρ at *; simp [execOp, e93, hcx, go_sem]) rfl (Below.refl _ _) hK
        refine StepAll.cons ?_ ?_
        · intro a wx hn hr hb K hK
          have ec := evc a
          have e94 : a.eval (.tmp 94) = .int .i64 x1 := hn 24 (by decide)
          exact rel_run (v := .int .i64 (x1 % 101)) (by clear hn hr hK; generalize a.eval = ρ at *; simp [execOp, ec, e94, hrx, go_sem]) rfl (Below.refl _ _) hK
        refine StepAll.cons ?_ ?_
        · intro a wx hn hr hb K hK
          have ec := evc a
          have e95 : a.eval (.tmp 95) = .int .i64 (x1 % 101) := hn 25 (by decide)
          exact rel_run (v := .agg #[.int .i64 (x1 % 101), .int .i64 9, .int .u64 0, .int .u64 0]) (by clear hn hr hK; generalize a.eval = ρ at *; simp [execOp, ec, e95, go_sem]) rfl (Below.refl _ _) hK
        refine StepAll.cons ?_ ?_
        · intro a wx hn hr hb K hK
          have ec := evc a
          have e92 : a.eval (.tmp 92) = .agg #[.int .i64 (x1 % 101), .int .i64 9, .int .u64 0, .int .u64 0] := hn 22 (by decide)
          have e96 : a.eval (.tmp 96) = .agg #[.int .i64 (x1 % 101), .int .i64 9, .int .u64 0, .int .u64 0] := hn 26 (by decide)
          have q := eq_E ⟨x1 % 101, 9, 0, 0⟩ ⟨x1 % 101, 9, 0, 0⟩ wx
          rw [show decide ((⟨x1 % 101, 9, 0, 0⟩ : En) = ⟨x1 % 101, 9, 0, 0⟩) = true from decide_eq_true rfl] at q
          dsimp only at q
          exact rel_run (v := .bool true) (by clear hn hr hK; generalize a.eval = ρ at *; simp [execOp, e92, e96, q, go_sem]) rfl (Below.refl _ _) hK
        refine StepAll.cons ?_ ?_
        · intro a wx hn hr hb K hK
          have ec := evc a
          have e91 : a.eval (.tmp 91) = .bool true := hn 21 (by decide)
          have e97 : a.eval (.tmp 97) = .bool true := hn 27 (by decide)
          exact rel_run (v := .bool true) (by clear hn hr hK; generalize a.eval = ρ at *; simp [execOp, e91, e97, go_sem]) rfl (Below.refl _ _) hK
        refine StepAll.cons ?_ ?_
        · intro a wx hn hr hb K hK
          have ec := evc a
          have e98 : a.eval (.tmp 98) = .bool true := hn 28 (by decide)
          exact rel_run (v := .bool true) (by clear hn hr hK; generalize a.eval = ρ at *; simp [execOp, e98, go_sem]) rfl (Below.refl _ _) hK
        refine StepAll.cons ?_ ?_
        · intro a wx hn hr hb K hK
          have ec := evc a
          have ef : a.eval (.func 61) = .func (.func 61) #[] #[] := rfl
          exact rel_call (by clear hn hr hK; generalize a.eval = ρ at *; simp [execOp, cf61, ef, go_sem]) ((HF.out wx).mono (fun e w2 h => ⟨_, h.1, rfl, h.2⟩)) hK
        refine StepAll.cons ?_ ?_
        · intro a wx hn hr hb K hK
          have ec := evc a
          have e99 : a.eval (.tmp 99) = .bool true := hn 29 (by decide)
          have e100 : a.eval (.tmp 100) = .bool true := hn 30 (by decide)
          exact rel_run (v := .bool true) (by clear hn hr hK; generalize a.eval = ρ at *; simp [execOp, e99, e100, go_sem]) rfl (Below.refl _ _) hK
        refine StepAll.cons ?_ ?_
        · intro a wx hn hr hb K hK
          have ec := evc a
          have e101 : a.eval (.tmp 101) = .bool true := hn 31 (by decide)
          exact rel_run (v := .bool true) (by clear hn hr hK; generalize a.eval = ρ at *; simp [execOp, e101, go_sem]) rfl (Below.refl _ _) hK
        exact trivial
      intro f w9 hv hb
      have er : f 4 = .bool true := hv 32 (by decide)
      clear hv kC0 kD0 kE0 kE1 kE2 kE3 hw1 hw2 hw3 hcx hrx cf44 cf59 cf61 HK HC1 HC2
      simp only [patchG, Nat.reduceAdd, Nat.reduceLeDiff, decide_true, decide_false, Bool.and_true, Bool.and_false, cond_true, cond_false, er]
      have H2 := hid (H.out.still hb)
      clear H hb
      go_wp2_with fail
      go_ret
      exact ⟨rfl, H2.out.below⟩
end Go.Proofs.Ytbaliaodioflfaa
