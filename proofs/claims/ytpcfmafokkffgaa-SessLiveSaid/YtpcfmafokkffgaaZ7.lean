/-
  Walks and laws that the proof stands on, one behind another: Win HoldC WinT Aead SessP SessL SessM SessA. For every input.
-/
import Derived.Test.YtpcfmafokkffgaaZ3
import Derived.Laws.Bits64b
import Derived.Test.YtpcfmafokkffgaaZ4
import Derived.Test.YtpcfmafokkffgaaZ5
import Derived.Test.YtpcfmafokkffgaaZ6
namespace Go.Proofs.Ytpcfmafokkffgaa
open Go.RowKit

/-- A number's digit in a window. -/
def wDig (x n : Int) : Int := if x ≤ n ∨ 64 ≤ x - 1 - n then 0 else ((2 ^ (x - 1 - n).toNat : Nat) : Int)
def wCan (x y n : Int) : Bool := decide (x ≤ n) || (decide (x - 1 - n < 64) && !y.toNat.testBit (x - 1 - n).toNat)
def wTake (x y n : Int) : (Int × Int) × Int :=
  if wCan x y n = true then
    if n < x then ((x, ((y.toNat ||| 2 ^ (x - 1 - n).toNat : Nat) : Int)), 0)
    else ((n + 1, (((y.toNat * 2 ^ (n + 1 - x).toNat) % 2 ^ 64 ||| 1 : Nat) : Int)), 0)
  else ((0, 0), 12)

/-- A window of numbers below 256. -/
structure WIn (x y : Int) : Prop where
  x0 : 0 ≤ x
  x1 : x ≤ 256
  y0 : 0 ≤ y
  y1 : y < 18446744073709551616
  z : x = 0 → y = 0

theorem two_pow_lt {d : Nat} (h : d < 64) : (2 ^ d : Nat) < 18446744073709551616 := Nat.lt_of_lt_of_le (Nat.pow_lt_pow_right (by decide) h) (by decide)
theorem and_pow_eq_zero (y d : Nat) : (y &&& 2 ^ d = 0) ↔ y.testBit d = false := by
  constructor
  · intro h
    have := congrArg (fun z => z.testBit d) h
    simpa [Nat.testBit_and, Nat.testBit_two_pow] using this
  · intro h
    refine Nat.eq_of_testBit_eq fun i => ?_
    rw [Nat.testBit_and, Nat.testBit_two_pow, Nat.zero_testBit]
    by_cases e : d = i
    · subst e; simp [h]
    · simp [e]
theorem wTake_in {x y n : Int} (h : WIn x y) (hn : 0 ≤ n) (hn' : n ≤ 255) : WIn (wTake x y n).1.1 (wTake x y n).1.2 := by
  unfold wTake
  split
  · split
    · rename_i hc hlt
      have hd : (x - 1 - n).toNat < 64 := by
        unfold wCan at hc
        simp only [Bool.or_eq_true, decide_eq_true_eq, Bool.and_eq_true] at hc
        rcases hc with hc | hc
        · omega
        · omega
      have hb := Nat.or_lt_two_pow (n := 64) (x := y.toNat) (y := 2 ^ (x - 1 - n).toNat) (by have := h.y1; have := h.y0; omega) (two_pow_lt hd)
      have e64 : (2 ^ 64 : Nat) = 18446744073709551616 := by decide
      exact ⟨h.x0, h.x1, by dsimp only; omega, by dsimp only; omega, fun e => by dsimp only at e; have := h.x0; omega⟩
    · have hb := Nat.or_lt_two_pow (n := 64) (x := (y.toNat * 2 ^ (n + 1 - x).toNat) % 2 ^ 64) (y := 1) (Nat.mod_lt _ (by decide)) (by decide)
      have e64 : (2 ^ 64 : Nat) = 18446744073709551616 := by decide
      exact ⟨by dsimp only; omega, by dsimp only; omega, by dsimp only; omega, by dsimp only; omega, fun e => by dsimp only at e; omega⟩
  · exact ⟨by decide, by decide, by decide, by decide, fun _ => rfl⟩

set_option maxRecDepth 100000 in
set_option maxHeartbeats 2000000 in
theorem digit_calls {x y n : Int} (h : WIn x y) (hn : 0 ≤ n) (hn' : n ≤ 255) (w : World) :
    Calls Try.prog 108 #[.agg #[.int .u64 x, .int .u64 y], .int .u64 n] w fun e w' => e = .returned (.int .u64 (wDig x n)) ∧ Below w.heap.size w w' := by
  have H := hid ((Hd.refl w).boxk (o := .cells #[.int .u64 x, .int .u64 y] 141 (0, 0)) w.heap.size rfl)
  have hx0 := h.x0
  have hx1 := h.x1
  by_cases h1 : x ≤ n
  · have d1 : decide (x ≤ n) = true := by simpa using h1
    have hq : Hid (wDig x n = 0) := hid (by unfold wDig; rw [if_pos (.inl h1)])
    clear h1 h
    go_enter Try.func108, Try.ntmps108
    go_wp2_with fail
    go_ret
    exact ⟨by rw [hq.out]; rfl, H.out.below⟩
  have d1 : decide (x ≤ n) = false := by simpa using h1
  have z1 : IntKind.u64.wrap (x - 1) = x - 1 := IntWalk.u64_in _ (by omega)
  have z2 : IntKind.u64.wrap (x - 1 - n) = x - 1 - n := IntWalk.u64_in _ (by omega)
  by_cases h2 : 64 ≤ x - 1 - n
  · have d2 : decide (64 ≤ x - 1 - n) = true := by simpa using h2
    have hq : Hid (wDig x n = 0) := hid (by unfold wDig; rw [if_pos (.inr h2)])
    clear h1 h h2
    go_enter Try.func108, Try.ntmps108
    go_wp2_with fail
    go_ret
    exact ⟨by rw [hq.out]; rfl, H.out.below⟩
  have d2 : decide (64 ≤ x - 1 - n) = false := by simpa using h2
  have hq : Hid (wDig x n = ((2 ^ (x - 1 - n).toNat : Nat) : Int)) := hid (by unfold wDig; rw [if_neg (by omega)])
  have z3 : IntKind.u64.wrap (2 ^ (x - 1 - n).toNat : Int) = ((2 ^ (x - 1 - n).toNat : Nat) : Int) := by
    have := two_pow_lt (d := (x - 1 - n).toNat) (by omega)
    rw [show ((2 : Int) ^ (x - 1 - n).toNat) = ((2 ^ (x - 1 - n).toNat : Nat) : Int) by simp]
    generalize (2 ^ (x - 1 - n).toNat : Nat) = K at *
    exact IntWalk.u64_in _ (by omega)
  have z4 : min (x - 1 - n).toNat 64 = (x - 1 - n).toNat := Nat.min_eq_left (by omega)
  have z5 : ¬ (x - 1 - n < 0) := by omega
  have z6 : decide (x - 1 - n < 0) = false := by simp; omega
  clear h1 h h2
  go_enter Try.func108, Try.ntmps108
  go_wp2_with fail
  go_ret
  exact ⟨by rw [hq.out]; rfl, H.out.below⟩

theorem eqW (x y : Int) (w : World) : (binOp .eql 141 (.agg #[.int .u64 x, .int .u64 y]) (.agg #[.int .u64 0, .int .u64 0])).run Try.prog w = .ok (.bool (decide (x = 0 ∧ y = 0))) w := by
  have q : (Op.equalIn 10000 141 (.agg #[.int .u64 x, .int .u64 y]) (.agg #[.int .u64 0, .int .u64 0])).run Try.prog w = .ok (decide (x = 0 ∧ y = 0)) w := by
    go_simp
    by_cases h1 : x = 0 <;> by_cases h2 : y = 0 <;> simp [h1, h2]
  rw [run_eql_struct, q]
  rfl
theorem bits_and_dig {y : Int} {d : Nat} (y0 : 0 ≤ y) (y1 : y < 18446744073709551616) (hd : d < 64) : bits .and .u64 y ((2 ^ d : Nat) : Int) = ((y.toNat &&& 2 ^ d : Nat) : Int) := by
  have := bits_and_u64_nat y.toNat (2 ^ d) (by omega) (two_pow_lt hd)
  rwa [show ((y.toNat : Nat) : Int) = y by omega] at this
theorem bits_or_dig {y : Int} {d : Nat} (y0 : 0 ≤ y) (y1 : y < 18446744073709551616) (hd : d < 18446744073709551616) : bits .or .u64 y (d : Int) = ((y.toNat ||| d : Nat) : Int) := by
  have := bits_or_u64_nat y.toNat d (by omega) hd
  rwa [show ((y.toNat : Nat) : Int) = y by omega] at this

set_option maxRecDepth 100000 in
set_option maxHeartbeats 4000000 in
theorem can14_calls {x y n : Int} (h : WIn x y) (hn : 0 ≤ n) (hn' : n ≤ 255) (w : World) :
    Calls Try.prog 107 #[.agg #[.int .u64 x, .int .u64 y], .int .u64 n] w fun e w' => e = .returned (.bool (wCan x y n)) ∧ Below w.heap.size w w' := by
  have H := hid ((Hd.refl w).boxk (o := .cells #[.int .u64 x, .int .u64 y] 141 (0, 0)) w.heap.size rfl)
  have hx0 := h.x0
  have hx1 := h.x1
  have HW := hid h
  have dm : (n == 18446744073709551615) = false := by simp; omega
  by_cases h0 : x = 0
  · have eqw : ∀ w : World, (binOp .eql 141 (.agg #[.int .u64 x, .int .u64 y]) (.agg #[.int .u64 0, .int .u64 0])).run Try.prog w = .ok (.bool true) w := fun w => by
      rw [eqW, decide_eq_true ⟨h0, h.z h0⟩]
    have hq : Hid (wCan x y n = true) := hid (by unfold wCan; rw [decide_eq_true (show x ≤ n by omega)]; rfl)
    clear h h0
    go_enter Try.func107, Try.ntmps107
    go_wp2_with fail
    go_ret
    exact ⟨by rw [hq.out]; rfl, H.out.below⟩
  have eqw : ∀ w : World, (binOp .eql 141 (.agg #[.int .u64 x, .int .u64 y]) (.agg #[.int .u64 0, .int .u64 0])).run Try.prog w = .ok (.bool false) w := fun w => by
    rw [eqW, decide_eq_false (fun e => h0 e.1)]
  by_cases h1 : x ≤ n
  · have d1 : decide (x ≤ n) = true := by simpa using h1
    have hq : Hid (wCan x y n = true) := hid (by unfold wCan; rw [d1]; rfl)
    clear h h0 h1
    go_enter Try.func107, Try.ntmps107
    go_wp2_with fail
    go_ret
    exact ⟨by rw [hq.out]; rfl, H.out.below⟩
  have d1 : decide (x ≤ n) = false := by simpa using h1
  by_cases h2 : 64 ≤ x - 1 - n
  · have hq : Hid (wCan x y n = false) := hid (by unfold wCan; rw [d1, decide_eq_false (show ¬ x - 1 - n < 64 by omega)]; rfl)
    have hd : Hid (wDig x n = 0) := hid (by unfold wDig; rw [if_pos (.inr h2)])
    clear h h0 h1 h2
    go_enter Try.func107, Try.ntmps107
    go_wp2_with fail
    refine (digit_calls HW.out hn hn' _).mono ?_
    rw [hd.out]
    rintro e w1 ⟨rfl, h1⟩
    replace H := hid (H.out.still h1)
    clear h1
    go_wp2_with fail
    go_ret
    exact ⟨by rw [hq.out]; rfl, H.out.below⟩
  obtain ⟨D, hD⟩ : ∃ D : Nat, (x - 1 - n).toNat = D := ⟨_, rfl⟩
  have hD64 : D < 64 := by omega
  have hd : wDig x n = ((2 ^ D : Nat) : Int) := by unfold wDig; rw [if_neg (by omega), hD]
  have hq : wCan x y n = !y.toNat.testBit D := by unfold wCan; rw [d1, decide_eq_true (show x - 1 - n < 64 by omega), hD]; simp
  have ha := bits_and_dig h.y0 h.y1 hD64
  have hz := and_pow_eq_zero y.toNat D
  have hp : (2 ^ D : Nat) ≠ 0 := by have := Nat.two_pow_pos D; omega
  obtain ⟨P, hP⟩ : ∃ P : Int, ((2 ^ D : Nat) : Int) = P := ⟨_, rfl⟩
  obtain ⟨A, hA⟩ : ∃ A : Int, ((y.toNat &&& 2 ^ D : Nat) : Int) = A := ⟨_, rfl⟩
  have e1 : (P != 0) = true := by rw [bne_iff_ne, ← hP]; omega
  have e2 : (A == 0) = !y.toNat.testBit D := by
    rw [← hA, Bool.eq_iff_iff]
    simp only [beq_iff_eq, Bool.not_eq_true']
    rw [← hz]; omega
  rw [hP] at ha hd
  rw [hA] at ha
  obtain ⟨B, hB⟩ : ∃ B : Bool, (!y.toNat.testBit D) = B := ⟨_, rfl⟩
  rw [hB] at e2 hq
  have HQ := hid hq
  have HDg := hid hd
  clear h h0 h1 h2 hq hd hB hA hP hp hz hD
  go_enter Try.func107, Try.ntmps107
  go_wp2_with fail
  refine (digit_calls HW.out hn hn' _).mono ?_
  rw [HDg.out]
  rintro e w1 ⟨rfl, h1⟩
  replace H := hid (H.out.still h1)
  clear h1
  have hk := H.out.blk
  have c0 := (cell_of_heap hk 0).trans (show _ = some (.int .u64 x) from rfl)
  have c1 := (cell_of_heap hk 1).trans (show _ = some (.int .u64 y) from rfl)
  have cs := (Array.getElem?_eq_some_iff.1 hk).1
  clear hk
  go_wp2_with fail
  go_ret
  exact ⟨by rw [HQ.out]; rfl, H.out.below⟩
end Go.Proofs.Ytpcfmafokkffgaa
namespace Go.Proofs.Ytpcfmafokkffgaa
open Go.RowKit

theorem hold_callB {P : Program} {Q : Exit → Act → World → Prop} {uses : List (List Nat)} {b : Nat} {vals : List (List Gh → Value)} {R2 : List (List Gh → List Res)} {W : World} {Ss Rs : List Res} {a : Act} {w : World} {g : Nat → Gh} {i : Nat} {o : Oper} {K : Act → World → Prop} {f : FuncId} {args : Array Value} (h : (execOp a.eval o).run P w = .ok (.enter f args) w)
    (hc : Calls P f args w fun e w2 => ∃ x : Gh, e = .returned (valOf uses vals (updG g i x) i) ∧ Hd W w2 ((R2.getD b fun _ => []) ((uses.getD i []).map (updG g i x)) ++ (Ss ++ Rs)))
    (hK : ∀ x v w', (o.dst ≠ none → v = valOf uses vals (updG g i x) i) → Hd W w' ((R2.getD b fun _ => []) ((uses.getD i []).map (updG g i x)) ++ (Ss ++ Rs)) → K (a.put o.dst v) w') : o.wp P a w K Q := by
  unfold Oper.wp; rw [h]
  refine Calls.mono hc fun e w2 he => ?_
  obtain ⟨x, rfl, h2⟩ := he
  exact hK x _ _ (fun _ => rfl) h2
end Go.Proofs.Ytpcfmafokkffgaa
namespace Go.Proofs.Ytpcfmafokkffgaa
open Go.RowKit

theorem shl_fits {y n x : Int} (y0 : 0 ≤ y) : IntKind.u64.wrap (y * 2 ^ min (n + 1 - x).toNat 64) = ((y.toNat * 2 ^ (n + 1 - x).toNat % 2 ^ 64 : Nat) : Int) := by
  obtain ⟨d, hd⟩ : ∃ d, (n + 1 - x).toNat = d := ⟨_, rfl⟩
  obtain ⟨Y, rfl⟩ : ∃ Y : Nat, y = Y := ⟨y.toNat, by omega⟩
  rw [hd, IntKind.wrap_u64]
  have key : Y * 2 ^ min d 64 % 2 ^ 64 = Y * 2 ^ d % 2 ^ 64 := by
    rcases Nat.le_total d 64 with h | h
    · rw [Nat.min_eq_left h]
    · rw [Nat.min_eq_right h, show d = 64 + (d - 64) by omega, Nat.pow_add]
      rw [Nat.mul_left_comm Y (2 ^ 64) (2 ^ (d - 64))]
      rw [Nat.mul_mod_left, Nat.mul_mod_right]
  have e64 : (2 ^ 64 : Nat) = 18446744073709551616 := by decide
  rw [e64] at key
  simp only [Int.toNat_natCast]
  rw [e64, ← key]
  simp

set_option maxRecDepth 100000 in
set_option maxHeartbeats 4000000 in
theorem take14_calls {x y n : Int} (h : WIn x y) (h0n : 0 ≤ n) (h1n : n ≤ 255) {r1 r2 r3 : Int} (hq : wTake x y n = ((r1, r2), r3)) (w : World) :
    Calls Try.prog 87 #[.agg #[.int .u64 x, .int .u64 y], .int .u64 n] w fun e w' => e = .returned (.tuple #[.agg #[.int .u64 r1, .int .u64 r2], .int .i64 r3]) ∧ Below w.heap.size w w' := by
  have mixed : Try.prog.follows .mixedOrders = true := by kernel_rfl
  have H := hid (((Hd.refl w).boxk (o := .cells #[.int .u64 x, .int .u64 y] 141 (0, 0)) w.heap.size rfl).boxk (o := .cells #[.int .u64 0, .int .u64 0] 141 (0, 0)) (w.heap.size + 1) (by simp))
  obtain ⟨wo, hwo⟩ : ∃ wo, (w.alloc (.cells #[.int .u64 x, .int .u64 y] 141 (0, 0))).alloc (.cells #[.int .u64 0, .int .u64 0] 141 (0, 0)) = wo := ⟨_, rfl⟩
  rw [hwo] at H
  have hx0 := h.x0
  have hx1 := h.x1
  have HW := hid h
  have dm : (n == 18446744073709551615) = false := by simp; omega
  have hk := Hd.nthk 1 H.out rfl
  have c0 := (cell_of_heap hk 0).trans (show _ = some (.int .u64 x) from rfl)
  have c1 := (cell_of_heap hk 1).trans (show _ = some (.int .u64 y) from rfl)
  have cs := (Array.getElem?_eq_some_iff.1 hk).1
  clear hk
  unfold wTake at hq
  go_enter Try.func87, Try.ntmps87
  go_wp2_with fail
  refine (can14_calls HW.out h0n h1n _).mono ?_
  cases hc : wCan x y n
  · rw [hc, if_neg (by simp)] at hq
    simp only [Prod.mk.injEq] at hq
    obtain ⟨⟨rfl, rfl⟩, rfl⟩ := hq
    rintro e w1 ⟨rfl, h1⟩
    replace H := hid (H.out.still h1)
    clear h1 c0 c1 cs hwo h hc
    have hk := Hd.nthk 0 H.out rfl
    have q0 := (cell_of_heap hk 0).trans (show _ = some (.int .u64 0) from rfl)
    have q1 := (cell_of_heap hk 1).trans (show _ = some (.int .u64 0) from rfl)
    have qs := (Array.getElem?_eq_some_iff.1 hk).1
    have qf := frozen_of_heap hk
    clear hk
    go_wp2_with fail
    refine bodyPost_ret (v := .tuple #[.agg #[.int .u64 0, .int .u64 0], .int .i64 12]) (by simp [results, Try.results87, go_sem, q0, q1]) rfl ⟨rfl, ?_⟩
    exact ((H.out.set 0 (.int .u64 0)).set 1 (.int .u64 0)).below
  rw [hc, if_pos rfl] at hq
  rintro e w1 ⟨rfl, h1⟩
  replace H := hid (H.out.still h1)
  clear h1 c0 c1 cs hwo
  have hk := Hd.nthk 1 H.out rfl
  have c0 := (cell_of_heap hk 0).trans (show _ = some (.int .u64 x) from rfl)
  have c1 := (cell_of_heap hk 1).trans (show _ = some (.int .u64 y) from rfl)
  have cs := (Array.getElem?_eq_some_iff.1 hk).1
  clear hk
  by_cases h1 : n < x
  · have d1 : decide (n < x) = true := by simpa using h1
    rw [if_pos h1] at hq
    simp only [Prod.mk.injEq] at hq
    obtain ⟨⟨rfl, h2⟩, rfl⟩ := hq
    have h64 : x - 1 - n < 64 := by
      unfold wCan at hc
      simp only [Bool.or_eq_true, decide_eq_true_eq, Bool.and_eq_true] at hc
      rcases hc with hc | hc
      · omega
      · exact hc.1
    obtain ⟨D, hD⟩ : ∃ D : Nat, (x - 1 - n).toNat = D := ⟨_, rfl⟩
    have hD64 : D < 64 := by omega
    have hd : wDig x n = ((2 ^ D : Nat) : Int) := by unfold wDig; rw [if_neg (by omega), hD]
    have ha := bits_or_dig (d := 2 ^ D) h.y0 h.y1 (two_pow_lt hD64)
    rw [hD] at h2
    obtain ⟨Pw, hP⟩ : ∃ P : Int, ((2 ^ D : Nat) : Int) = P := ⟨_, rfl⟩
    obtain ⟨A, hA⟩ : ∃ A : Int, ((y.toNat ||| 2 ^ D : Nat) : Int) = A := ⟨_, rfl⟩
    rw [hP] at ha hd
    rw [hA] at ha h2
    subst h2
    have HDg := hid hd
    clear h hc hd hA hP hD hD64 h64 h1
    go_wp2_with fail
    clear c0 c1 cs
    have cf108 : ∀ args w, (callFunc 108 args).run Try.prog w = .ok (.enter 108 args) w := fun args w => by kernel_rfl
    refine hold_coreB (P := Try.prog) (W := w) (Rs := (Blk (w.heap.size + 1) (.cells #[.int .u64 0, .int .u64 0] 141 (0, 0)) :: [])) [[], [0], [], [], [2, 3], [1, 4], [], [1, 2, 5, 6]] [[], [], [], [], [], [], [], []] ([some 21, some 22, some 23, some 24, some 25, some 26, some 27, none] : List (Option Nat)) ([none, none, none, none, none, none, none, none, some 7] : List (Option Nat)) ((fun _ => .pointer (some ⟨w.heap.size, 1, none⟩)) :: (fun _ => .int .u64 y) :: (fun _ => .agg #[.int .u64 x, .int .u64 y]) :: (fun _ => .int .u64 n) :: (fun _ => .int .u64 Pw) :: (fun _ => .int .u64 A) :: (fun _ => .pointer (some ⟨w.heap.size, 1, none⟩)) :: (fun _ => undef) :: []) ((fun _ => []) :: (fun _ => []) :: (fun _ => []) :: (fun _ => []) :: (fun _ => []) :: (fun _ => []) :: (fun _ => []) :: (fun _ => []) :: (fun _ => [Blk w.heap.size (.cells #[.int .u64 x, .int .u64 y] 141 (0, 0))]) :: ([] : List (List Gh → List Res))) ((fun _ => []) :: (fun _ => []) :: (fun _ => []) :: (fun _ => []) :: (fun _ => []) :: (fun _ => []) :: (fun _ => []) :: (fun _ => []) :: (fun _ => [Blk w.heap.size (.cells #[.int .u64 x, .int .u64 A] 141 (0, 0))]) :: ([] : List (List Gh → List Res))) (by kernel_rfl) rfl (hold_lt (n := 41) (by decide)) (H.out.swap) rfl (by decide) (hold_nil (fs := [7]) trivial rfl ?nil6) ?gd6 ?step6 (fun t => (decide (21 ≤ t) && decide (t ≤ 27))) (by decide) ?done6 (fun I h0 st dn => run_wpB mixed I h0 st dn)
    case nil6 =>
      intro s gs hs
      simp only [List.mem_cons, List.not_mem_nil, or_false] at hs
      subst hs; rfl
    case gd6 =>
      repeat (refine StepAll.cons (by first | exact trivial | exact fun g => rfl) ?_)
      exact trivial
    case step6 =>
      refine StepAll.cons ?_ ?_
      · refine HoldStepB.val (by decide) fun a wx γ hn hr hres hpre Ss hH K hK => ?_
        have e2 : a.eval (.tmp 2) = .pointer (some ⟨w.heap.size, 0, none⟩) := (hr 2 (by decide)).trans rfl
        exact hold_run (v := .pointer (some ⟨w.heap.size, 1, none⟩)) (by clear hn hr hK; generalize a.eval = ρ at *; simp [execOp, e2, go_sem]) rfl rfl hH hK
      refine StepAll.cons ?_ ?_
      · refine HoldStepB.val (by decide) fun a wx γ hn hr hres hpre Ss hH K hK => ?_
        have e21 : a.eval (.tmp 21) = .pointer (some ⟨w.heap.size, 1, none⟩) := hn 0 (by decide) 21 rfl
        obtain ⟨Zs, hB⟩ := hpre 8 7 rfl (by decide) (by decide)
        have hk := (show Hd w wx (Blk w.heap.size (.cells #[.int .u64 x, .int .u64 y] 141 (0, 0)) :: Zs) from hB).blk
        have c0 := (cell_of_heap hk 1).trans (show _ = some (.int .u64 y) from rfl)
        clear hk
        exact hold_run (v := .int .u64 y) (by clear hn hr hK; generalize a.eval = ρ at *; simp [execOp, e21, c0, go_sem]) rfl rfl hH hK
      refine StepAll.cons ?_ ?_
      · refine HoldStepB.val (by decide) fun a wx γ hn hr hres hpre Ss hH K hK => ?_
        have e2 : a.eval (.tmp 2) = .pointer (some ⟨w.heap.size, 0, none⟩) := (hr 2 (by decide)).trans rfl
        obtain ⟨Zs, hB⟩ := hpre 8 7 rfl (by decide) (by decide)
        have hk := (show Hd w wx (Blk w.heap.size (.cells #[.int .u64 x, .int .u64 y] 141 (0, 0)) :: Zs) from hB).blk
        have c0 := (cell_of_heap hk 0).trans (show _ = some (.int .u64 x) from rfl)
        have c1 := (cell_of_heap hk 1).trans (show _ = some (.int .u64 y) from rfl)
        clear hk
        exact hold_run (v := .agg #[.int .u64 x, .int .u64 y]) (by clear hn hr hK; generalize a.eval = ρ at *; simp [execOp, e2, c0, c1, go_sem]) rfl rfl hH hK
      refine StepAll.cons ?_ ?_
      · refine HoldStepB.val (by decide) fun a wx γ hn hr hres hpre Ss hH K hK => ?_
        have e1 : a.eval (.tmp 1) = .int .u64 n := (hr 1 (by decide)).trans rfl
        exact hold_run (v := .int .u64 n) (by clear hn hr hK; generalize a.eval = ρ at *; simp [execOp, e1, go_sem]) rfl rfl hH hK
      refine StepAll.cons ?_ ?_
      · refine HoldStepB.val (by decide) fun a wx γ hn hr hres hpre Ss hH K hK => ?_
        have e23 : a.eval (.tmp 23) = .agg #[.int .u64 x, .int .u64 y] := hn 2 (by decide) 23 rfl
        have e24 : a.eval (.tmp 24) = .int .u64 n := hn 3 (by decide) 24 rfl
        have ef : a.eval (.func 108) = .func (.func 108) #[] #[] := rfl
        refine hold_call (f := 108) (args := #[.agg #[.int .u64 x, .int .u64 y], .int .u64 n]) (by clear hn hr hK hH; generalize a.eval = ρ at *; simp [execOp, e23, e24, cf108, ef, go_sem]) ?_ hH hK
        refine (digit_calls HW.out h0n h1n _).mono fun e w2 h => ⟨default, ?_, fun Xs hX => hX.still h.2⟩
        rw [h.1, HDg.out]
        rfl
      refine StepAll.cons ?_ ?_
      · refine HoldStepB.val (by decide) fun a wx γ hn hr hres hpre Ss hH K hK => ?_
        have e22 : a.eval (.tmp 22) = .int .u64 y := hn 1 (by decide) 22 rfl
        have e25 : a.eval (.tmp 25) = .int .u64 Pw := hn 4 (by decide) 25 rfl
        exact hold_run (v := .int .u64 A) (by clear hn hr hK; generalize a.eval = ρ at *; simp [execOp, e22, e25, ha, go_sem]) rfl rfl hH hK
      refine StepAll.cons ?_ ?_
      · refine HoldStepB.val (by decide) fun a wx γ hn hr hres hpre Ss hH K hK => ?_
        have e2 : a.eval (.tmp 2) = .pointer (some ⟨w.heap.size, 0, none⟩) := (hr 2 (by decide)).trans rfl
        exact hold_run (v := .pointer (some ⟨w.heap.size, 1, none⟩)) (by clear hn hr hK; generalize a.eval = ρ at *; simp [execOp, e2, go_sem]) rfl rfl hH hK
      refine StepAll.cons ?_ ?_
      · refine HoldStepB.fil 8 (by decide) fun a wx γ hn hr hres hpre Ss hH K hK => ?_
        have e27 : a.eval (.tmp 27) = .pointer (some ⟨w.heap.size, 1, none⟩) := hn 6 (by decide) 27 rfl
        have e26 : a.eval (.tmp 26) = .int .u64 A := hn 5 (by decide) 26 rfl
        have hH2 : Hd w wx (Blk w.heap.size (.cells #[.int .u64 x, .int .u64 y] 141 (0, 0)) :: (Ss ++ (Blk (w.heap.size + 1) (.cells #[.int .u64 0, .int .u64 0] 141 (0, 0)) :: []))) := hH
        have hk := hH2.blk
        have c0 := (cell_of_heap hk 1).trans (show _ = some (.int .u64 y) from rfl)
        have cf := frozen_of_heap hk
        clear hk hH
        exact hold_filB (w' := (wx.setCell ⟨w.heap.size, 1, none⟩ (.int .u64 A))) (by clear hn hr hK hH2; generalize a.eval = ρ at *; simp [execOp, e27, e26, c0, cf, go_sem]) rfl rfl (hH2.set 1 (.int .u64 A)) hK
      exact trivial
    case done6 =>
      intro f w9 g9 hv h9
      have hd : Hd w w9 (Blk w.heap.size (.cells #[.int .u64 x, .int .u64 A] 141 (0, 0)) :: Blk (w.heap.size + 1) (.cells #[.int .u64 0, .int .u64 0] 141 (0, 0)) :: []) := h9
      clear hv h9 cf108
      clear g9
      simp only [patchG, Nat.reduceAdd, Nat.reduceLeDiff, decide_true, decide_false, Bool.and_true, Bool.and_false, cond_true, cond_false, ]
      clear H
      have H := hid hd
      clear hd
      have hk := Hd.nthk 0 H.out rfl
      have c0 := (cell_of_heap hk 0).trans (show _ = some (.int .u64 x) from rfl)
      have c1 := (cell_of_heap hk 1).trans (show _ = some (.int .u64 A) from rfl)
      have cs := (Array.getElem?_eq_some_iff.1 hk).1
      clear hk
      have hk := Hd.nthk 1 H.out rfl
      have q0 := (cell_of_heap hk 0).trans (show _ = some (.int .u64 0) from rfl)
      have q1 := (cell_of_heap hk 1).trans (show _ = some (.int .u64 0) from rfl)
      have qs := (Array.getElem?_eq_some_iff.1 hk).1
      have qf := frozen_of_heap hk
      clear hk
      go_wp2_with fail
      refine bodyPost_ret (v := .tuple #[.agg #[.int .u64 x, .int .u64 A], .int .i64 0]) (by simp [results, Try.results87, go_sem, q0, q1]) rfl ⟨rfl, ?_⟩
      exact ((H.out.swap.set 0 (.int .u64 x)).set 1 (.int .u64 A)).below
  · have d1 : decide (n < x) = false := by simpa using h1
    rw [if_neg h1] at hq
    simp only [Prod.mk.injEq] at hq
    obtain ⟨⟨rfl, h2⟩, rfl⟩ := hq
    have z1 : IntKind.u64.wrap (n + 1) = n + 1 := IntWalk.u64_in _ (by omega)
    have z2 : IntKind.u64.wrap (n + 1 - x) = n + 1 - x := IntWalk.u64_in _ (by omega)
    have z3 : ¬ (n + 1 - x < 0) := by omega
    have z4 : decide (n + 1 - x < 0) = false := by simp; omega
    have z5 := shl_fits (n := n) (x := x) h.y0
    have z6 := bits_or_u64_nat (y.toNat * 2 ^ (n + 1 - x).toNat % 2 ^ 64) 1 (Nat.mod_lt _ (by decide)) (by decide)
    obtain ⟨Sh, hS⟩ : ∃ S : Int, ((y.toNat * 2 ^ (n + 1 - x).toNat % 2 ^ 64 : Nat) : Int) = S := ⟨_, rfl⟩
    obtain ⟨A, hA⟩ : ∃ A : Int, ((y.toNat * 2 ^ (n + 1 - x).toNat % 2 ^ 64 ||| 1 : Nat) : Int) = A := ⟨_, rfl⟩
    rw [hS] at z5 z6
    rw [hA] at z6 h2
    subst h2
    have z7 : bits .or .u64 Sh 1 = A := z6
    have zsh : ∀ w : World, (Op.shift .shl .u64 y .u64 (n + 1 - x)).run Try.prog w = .ok (.int .u64 Sh) w := fun w => by
      unfold Op.shift
      rw [if_neg z3]
      show (pure (.int .u64 (IntKind.u64.wrap (y * 2 ^ min (n + 1 - x).toNat 64))) : Sem Value).run _ w = _
      rw [z5]
      rfl
    clear hS hA z6 h hc h1 z3 z4 z5
    have hk := Hd.nthk 0 H.out rfl
    have q0 := (cell_of_heap hk 0).trans (show _ = some (.int .u64 0) from rfl)
    have q1 := (cell_of_heap hk 1).trans (show _ = some (.int .u64 0) from rfl)
    have qs := (Array.getElem?_eq_some_iff.1 hk).1
    have qf := frozen_of_heap hk
    clear hk
    go_wp2_with fail
    refine bodyPost_ret (v := .tuple #[.agg #[.int .u64 (n + 1), .int .u64 A], .int .i64 0]) (by simp [results, Try.results87, go_sem, q0, q1]) rfl ⟨rfl, ?_⟩
    exact ((H.out.set 0 (.int .u64 (n + 1))).set 1 (.int .u64 A)).below
end Go.Proofs.Ytpcfmafokkffgaa
namespace Go.Proofs.Ytpcfmafokkffgaa
open Go.RowKit

set_option maxRecDepth 100000 in
set_option maxHeartbeats 1000000 in
theorem seal_calls {W w : World} {Rs : List Res} {b : Nat} {L : List T} {m : Int} (k n c d : Int) (h : Hd W w (Sto b L m :: Rs)) :
    Calls Try.prog 84 #[.pointer (some ⟨b, 0, none⟩), .int .i64 k, .int .u64 n, .int .i64 c, .int .i64 d] w fun e w' => e = .returned (.tuple #[.int .i64 (put m L (seaT k n c d)).1, .int .i64 (put m L (seaT k n c d)).2.1]) ∧ Hd W w' (Sto b (put m L (seaT k n c d)).2.2 m :: Rs) := by
  obtain ⟨r1, r2, L2, hq⟩ : ∃ r1 r2 L2, put m L (seaT k n c d) = (r1, r2, L2) := ⟨_, _, _, rfl⟩
  rw [hq]
  have Hq := hid hq
  have H := hid h
  clear hq h
  go_enter Try.func84, Try.ntmps84
  go_wp2_with fail
  refine (put_c 10 ⟨#[]⟩ n k c d Hq (by first | exact H.out | exact H.out.al | exact H.out.al.al | exact H.out.al.al.al | exact H.out.al.al.al.al)).mono ?_
  rintro e w1 ⟨rfl, h1⟩
  replace H := hid h1
  clear h1
  go_wp2_with fail
  go_ret2
  exact ⟨rfl, H.out⟩

theorem seal_c {W w : World} {Rs : List Res} {b : Nat} {L : List T} {m : Int} (k n c d : Int) {r1 r2 : Int} {L2 : List T} (hq : Hid (put m L (seaT k n c d) = (r1, r2, L2))) (h : Hd W w (Sto b L m :: Rs)) :
    Calls Try.prog 84 #[.pointer (some ⟨b, 0, none⟩), .int .i64 k, .int .u64 n, .int .i64 c, .int .i64 d] w fun e w' => e = .returned (.tuple #[.int .i64 r1, .int .i64 r2]) ∧ Hd W w' (Sto b L2 m :: Rs) := by
  have := seal_calls k n c d h
  rw [hq.out] at this
  exact this

theorem open5_eq {L : List T} {k n b s : Int} (g : Good L) : open5 L k n b s =
    if getB L k = true ∧ getB L b = true ∧ getB L s = true then
      if (getT L s).k = 10 ∧ (getT L s).a = k ∧ (getT L s).n = n ∧ (getT L s).b = b then ((getT L s).c, 0) else (0, 9)
    else (0, 1) := by
  unfold open5
  by_cases h : getT L s = seaT k n b (getT L s).c
  · rw [if_pos h, if_pos ((sea_iff g).1 h)]
  · rw [if_neg h, if_neg fun hh => h ((sea_iff g).2 hh)]

theorem open5_ok {L : List T} {k n b s p : Int} (g : Good L) (h : open5 L k n b s = (p, 0)) : In L p := by
  unfold open5 at h
  split at h
  · rename_i h1
    split at h
    · rename_i h2
      simp only [Prod.mk.injEq, and_true] at h
      by_cases hs : 1 ≤ s ∧ s ≤ L.length
      · have ha := at_getT hs.1 hs.2
        rw [h2] at ha
        have := ha.part g (p := p) (by rw [← h]; simp [seaT, T.parts, many])
        exact ⟨this.1, by have := ha.hi; omega⟩
      · have := (getT_out (L := L) (x := s) (by omega)).2
        rw [this] at h1
        exact Bool.noConfusion h1.2.2
    · simp at h
  · simp at h

set_option maxHeartbeats 1000000 in
theorem ais_c {W w : World} {Rs : List Res} {b : Nat} {L : List T} {m : Int} (x : Int) (h : Hd W w (Sto b L m :: Rs)) :
    Calls Try.prog 83 #[.pointer (some ⟨b, 0, none⟩), .int .i64 x] w fun e w' => e = .returned (.bool (getB L x)) ∧ Hd W w' (Sto b L m :: Rs) := by
  have H := hid h
  clear h
  obtain ⟨k, s, n, a, b2, c, hq⟩ : ∃ k s n a b c, getT L x = ⟨k, s, n, a, b, c⟩ := ⟨_, _, _, _, _, _, rfl⟩
  have Ht := hid hq
  clear hq
  go_enter Try.func83, Try.ntmps83
  go_wp2_with fail
  refine (get_c x H.out).mono ?_
  rw [Ht.out]
  simp only [T.val]
  rintro e w1 ⟨rfl, h1⟩
  have H1 := hid h1
  clear h1 H
  go_wp2_with fail
  go_ret
  exact ⟨rfl, H1.out.al⟩

set_option maxRecDepth 100000 in
set_option maxHeartbeats 4000000 in
theorem aopen_calls {W w : World} {Rs : List Res} {b : Nat} {L : List T} {m : Int} (x n y z : Int) (h : Hd W w (Sto b L m :: Rs)) :
    Calls Try.prog 90 #[.pointer (some ⟨b, 0, none⟩), .int .i64 x, .int .u64 n, .int .i64 y, .int .i64 z] w fun e w' => e = .returned (.tuple #[.int .i64 (open5 L x n y z).1, .int .i64 (open5 L x n y z).2]) ∧ Hd W w' (Sto b L m :: Rs) := by
  obtain ⟨lb, db, mb, lc, dc, hs⟩ := h.sto
  have hgd := hs.good
  have HG := hid hgd
  clear hs hgd
  have H := hid h
  clear h
  obtain ⟨i1, hq⟩ : ∃ i1, getB L x = i1 := ⟨_, rfl⟩
  have Hi1 := hid hq
  clear hq
  obtain ⟨i2, hq⟩ : ∃ i2, getB L y = i2 := ⟨_, rfl⟩
  have Hi2 := hid hq
  clear hq
  obtain ⟨i3, hq⟩ : ∃ i3, getB L z = i3 := ⟨_, rfl⟩
  have Hi3 := hid hq
  clear hq
  obtain ⟨tk, ts, tn, ta, tb, tc, hq⟩ : ∃ tk ts tn ta tb tc, getT L z = ⟨tk, ts, tn, ta, tb, tc⟩ := ⟨_, _, _, _, _, _, rfl⟩
  have Ht := hid hq
  clear hq
  obtain ⟨R, hR⟩ : ∃ R, open5 L x n y z = R := ⟨_, rfl⟩
  rw [hR]
  have HR := hid hR
  clear hR
  rcases i1 with _ | _
  · skip
    go_enter Try.func90, Try.ntmps90
    go_wp2_with fail
    refine (ais_c x (by first | exact H.out | exact H.out.al | exact H.out.al.al | exact H.out.al.al.al | exact H.out.al.al.al.al)).mono ?_
    rw [Hi1.out]
    rintro e w1 ⟨rfl, h1⟩
    replace H := hid h1
    clear h1
    go_wp2_with fail
    go_ret2
    have hR := HR.out
    rw [open5_eq HG.out] at hR
    simp [Hi1.out] at hR
    subst hR
    exact ⟨rfl, (by first | exact H.out | exact H.out.al | exact H.out.al.al | exact H.out.al.al.al | exact H.out.al.al.al.al)⟩
  rcases i2 with _ | _
  · skip
    go_enter Try.func90, Try.ntmps90
    go_wp2_with fail
    refine (ais_c x (by first | exact H.out | exact H.out.al | exact H.out.al.al | exact H.out.al.al.al | exact H.out.al.al.al.al)).mono ?_
    rw [Hi1.out]
    rintro e w2 ⟨rfl, h1⟩
    replace H := hid h1
    clear h1
    go_wp2_with fail
    refine (ais_c y (by first | exact H.out | exact H.out.al | exact H.out.al.al | exact H.out.al.al.al | exact H.out.al.al.al.al)).mono ?_
    rw [Hi2.out]
    rintro e w3 ⟨rfl, h1⟩
    replace H := hid h1
    clear h1
    go_wp2_with fail
    go_ret2
    have hR := HR.out
    rw [open5_eq HG.out] at hR
    simp [Hi2.out] at hR
    subst hR
    exact ⟨rfl, (by first | exact H.out | exact H.out.al | exact H.out.al.al | exact H.out.al.al.al | exact H.out.al.al.al.al)⟩
  rcases i3 with _ | _
  · skip
    go_enter Try.func90, Try.ntmps90
    go_wp2_with fail
    refine (ais_c x (by first | exact H.out | exact H.out.al | exact H.out.al.al | exact H.out.al.al.al | exact H.out.al.al.al.al)).mono ?_
    rw [Hi1.out]
    rintro e w4 ⟨rfl, h1⟩
    replace H := hid h1
    clear h1
    go_wp2_with fail
    refine (ais_c y (by first | exact H.out | exact H.out.al | exact H.out.al.al | exact H.out.al.al.al | exact H.out.al.al.al.al)).mono ?_
    rw [Hi2.out]
    rintro e w5 ⟨rfl, h1⟩
    replace H := hid h1
    clear h1
    go_wp2_with fail
    refine (ais_c z (by first | exact H.out | exact H.out.al | exact H.out.al.al | exact H.out.al.al.al | exact H.out.al.al.al.al)).mono ?_
    rw [Hi3.out]
    rintro e w6 ⟨rfl, h1⟩
    replace H := hid h1
    clear h1
    go_wp2_with fail
    go_ret2
    have hR := HR.out
    rw [open5_eq HG.out] at hR
    simp [Hi3.out] at hR
    subst hR
    exact ⟨rfl, (by first | exact H.out | exact H.out.al | exact H.out.al.al | exact H.out.al.al.al | exact H.out.al.al.al.al)⟩
  by_cases hk : tk = 10
  case neg =>
    have dK0 : (tk != 10) = true := by simp [hk]
    have K := hid hk
    clear hk
    go_enter Try.func90, Try.ntmps90
    go_wp2_with fail
    refine (ais_c x (by first | exact H.out | exact H.out.al | exact H.out.al.al | exact H.out.al.al.al | exact H.out.al.al.al.al)).mono ?_
    rw [Hi1.out]
    rintro e w7 ⟨rfl, h1⟩
    replace H := hid h1
    clear h1
    go_wp2_with fail
    refine (ais_c y (by first | exact H.out | exact H.out.al | exact H.out.al.al | exact H.out.al.al.al | exact H.out.al.al.al.al)).mono ?_
    rw [Hi2.out]
    rintro e w8 ⟨rfl, h1⟩
    replace H := hid h1
    clear h1
    go_wp2_with fail
    refine (ais_c z (by first | exact H.out | exact H.out.al | exact H.out.al.al | exact H.out.al.al.al | exact H.out.al.al.al.al)).mono ?_
    rw [Hi3.out]
    rintro e w9 ⟨rfl, h1⟩
    replace H := hid h1
    clear h1
    go_wp2_with fail
    refine (get_c z (by first | exact H.out | exact H.out.al | exact H.out.al.al | exact H.out.al.al.al | exact H.out.al.al.al.al)).mono ?_
    rw [Ht.out, Hi3.out]
    simp only [T.val]
    rintro e w10 ⟨rfl, h1⟩
    replace H := hid h1
    clear h1
    go_wp2_with fail
    go_ret2
    have hR := HR.out
    rw [open5_eq HG.out] at hR
    simp [Hi1.out, Hi2.out, Hi3.out, Ht.out, K.out] at hR
    subst hR
    exact ⟨rfl, (by first | exact H.out | exact H.out.al | exact H.out.al.al | exact H.out.al.al.al | exact H.out.al.al.al.al)⟩
  have dK0 : (tk != 10) = false := by simp [hk]
  have K := hid hk
  clear hk
  by_cases hk : ta = x
  case neg =>
    have dA0 : (ta != x) = true := by simp [hk]
    have A := hid hk
    clear hk
    go_enter Try.func90, Try.ntmps90
    go_wp2_with fail
    refine (ais_c x (by first | exact H.out | exact H.out.al | exact H.out.al.al | exact H.out.al.al.al | exact H.out.al.al.al.al)).mono ?_
    rw [Hi1.out]
    rintro e w11 ⟨rfl, h1⟩
    replace H := hid h1
    clear h1
    go_wp2_with fail
    refine (ais_c y (by first | exact H.out | exact H.out.al | exact H.out.al.al | exact H.out.al.al.al | exact H.out.al.al.al.al)).mono ?_
    rw [Hi2.out]
    rintro e w12 ⟨rfl, h1⟩
    replace H := hid h1
    clear h1
    go_wp2_with fail
    refine (ais_c z (by first | exact H.out | exact H.out.al | exact H.out.al.al | exact H.out.al.al.al | exact H.out.al.al.al.al)).mono ?_
    rw [Hi3.out]
    rintro e w13 ⟨rfl, h1⟩
    replace H := hid h1
    clear h1
    go_wp2_with fail
    refine (get_c z (by first | exact H.out | exact H.out.al | exact H.out.al.al | exact H.out.al.al.al | exact H.out.al.al.al.al)).mono ?_
    rw [Ht.out, Hi3.out]
    simp only [T.val]
    rintro e w14 ⟨rfl, h1⟩
    replace H := hid h1
    clear h1
    go_wp2_with fail
    go_ret2
    have hR := HR.out
    rw [open5_eq HG.out] at hR
    simp [Hi1.out, Hi2.out, Hi3.out, Ht.out, K.out, A.out] at hR
    subst hR
    exact ⟨rfl, (by first | exact H.out | exact H.out.al | exact H.out.al.al | exact H.out.al.al.al | exact H.out.al.al.al.al)⟩
  have dA0 : (ta != x) = false := by simp [hk]
  have A := hid hk
  clear hk
  by_cases hk : tn = n
  case neg =>
    have dM0 : (tn != n) = true := by simp [hk]
    have M := hid hk
    clear hk
    go_enter Try.func90, Try.ntmps90
    go_wp2_with fail
    refine (ais_c x (by first | exact H.out | exact H.out.al | exact H.out.al.al | exact H.out.al.al.al | exact H.out.al.al.al.al)).mono ?_
    rw [Hi1.out]
    rintro e w15 ⟨rfl, h1⟩
    replace H := hid h1
    clear h1
    go_wp2_with fail
    refine (ais_c y (by first | exact H.out | exact H.out.al | exact H.out.al.al | exact H.out.al.al.al | exact H.out.al.al.al.al)).mono ?_
    rw [Hi2.out]
    rintro e w16 ⟨rfl, h1⟩
    replace H := hid h1
    clear h1
    go_wp2_with fail
    refine (ais_c z (by first | exact H.out | exact H.out.al | exact H.out.al.al | exact H.out.al.al.al | exact H.out.al.al.al.al)).mono ?_
    rw [Hi3.out]
    rintro e w17 ⟨rfl, h1⟩
    replace H := hid h1
    clear h1
    go_wp2_with fail
    refine (get_c z (by first | exact H.out | exact H.out.al | exact H.out.al.al | exact H.out.al.al.al | exact H.out.al.al.al.al)).mono ?_
    rw [Ht.out, Hi3.out]
    simp only [T.val]
    rintro e w18 ⟨rfl, h1⟩
    replace H := hid h1
    clear h1
    go_wp2_with fail
    go_ret2
    have hR := HR.out
    rw [open5_eq HG.out] at hR
    simp [Hi1.out, Hi2.out, Hi3.out, Ht.out, K.out, A.out, M.out] at hR
    subst hR
    exact ⟨rfl, (by first | exact H.out | exact H.out.al | exact H.out.al.al | exact H.out.al.al.al | exact H.out.al.al.al.al)⟩
  have dM0 : (tn != n) = false := by simp [hk]
  have M := hid hk
  clear hk
  by_cases hk : tb = y
  case neg =>
    have dB0 : (tb != y) = true := by simp [hk]
    have B := hid hk
    clear hk
    go_enter Try.func90, Try.ntmps90
    go_wp2_with fail
    refine (ais_c x (by first | exact H.out | exact H.out.al | exact H.out.al.al | exact H.out.al.al.al | exact H.out.al.al.al.al)).mono ?_
    rw [Hi1.out]
    rintro e w19 ⟨rfl, h1⟩
    replace H := hid h1
    clear h1
    go_wp2_with fail
    refine (ais_c y (by first | exact H.out | exact H.out.al | exact H.out.al.al | exact H.out.al.al.al | exact H.out.al.al.al.al)).mono ?_
    rw [Hi2.out]
    rintro e w20 ⟨rfl, h1⟩
    replace H := hid h1
    clear h1
    go_wp2_with fail
    refine (ais_c z (by first | exact H.out | exact H.out.al | exact H.out.al.al | exact H.out.al.al.al | exact H.out.al.al.al.al)).mono ?_
    rw [Hi3.out]
    rintro e w21 ⟨rfl, h1⟩
    replace H := hid h1
    clear h1
    go_wp2_with fail
    refine (get_c z (by first | exact H.out | exact H.out.al | exact H.out.al.al | exact H.out.al.al.al | exact H.out.al.al.al.al)).mono ?_
    rw [Ht.out, Hi3.out]
    simp only [T.val]
    rintro e w22 ⟨rfl, h1⟩
    replace H := hid h1
    clear h1
    go_wp2_with fail
    go_ret2
    have hR := HR.out
    rw [open5_eq HG.out] at hR
    simp [Hi1.out, Hi2.out, Hi3.out, Ht.out, K.out, A.out, M.out, B.out] at hR
    subst hR
    exact ⟨rfl, (by first | exact H.out | exact H.out.al | exact H.out.al.al | exact H.out.al.al.al | exact H.out.al.al.al.al)⟩
  have dB0 : (tb != y) = false := by simp [hk]
  have B := hid hk
  clear hk
  go_enter Try.func90, Try.ntmps90
  go_wp2_with fail
  refine (ais_c x (by first | exact H.out | exact H.out.al | exact H.out.al.al | exact H.out.al.al.al | exact H.out.al.al.al.al)).mono ?_
  rw [Hi1.out]
  rintro e w23 ⟨rfl, h1⟩
  replace H := hid h1
  clear h1
  go_wp2_with fail
  refine (ais_c y (by first | exact H.out | exact H.out.al | exact H.out.al.al | exact H.out.al.al.al | exact H.out.al.al.al.al)).mono ?_
  rw [Hi2.out]
  rintro e w24 ⟨rfl, h1⟩
  replace H := hid h1
  clear h1
  go_wp2_with fail
  refine (ais_c z (by first | exact H.out | exact H.out.al | exact H.out.al.al | exact H.out.al.al.al | exact H.out.al.al.al.al)).mono ?_
  rw [Hi3.out]
  rintro e w25 ⟨rfl, h1⟩
  replace H := hid h1
  clear h1
  go_wp2_with fail
  refine (get_c z (by first | exact H.out | exact H.out.al | exact H.out.al.al | exact H.out.al.al.al | exact H.out.al.al.al.al)).mono ?_
  rw [Ht.out, Hi3.out]
  simp only [T.val]
  rintro e w26 ⟨rfl, h1⟩
  replace H := hid h1
  clear h1
  go_wp2_with fail
  go_ret2
  have hR := HR.out
  rw [open5_eq HG.out] at hR
  simp [Hi1.out, Hi2.out, Hi3.out, Ht.out, K.out, A.out, M.out, B.out] at hR
  subst hR
  exact ⟨rfl, (by first | exact H.out | exact H.out.al | exact H.out.al.al | exact H.out.al.al.al | exact H.out.al.al.al.al)⟩

theorem aopen_c {W w : World} {Rs : List Res} {b : Nat} {L : List T} {m : Int} (x n y z : Int) {p e1 : Int} (hq : Hid (open5 L x n y z = (p, e1))) (h : Hd W w (Sto b L m :: Rs)) :
    Calls Try.prog 90 #[.pointer (some ⟨b, 0, none⟩), .int .i64 x, .int .u64 n, .int .i64 y, .int .i64 z] w fun e w' => e = .returned (.tuple #[.int .i64 p, .int .i64 e1]) ∧ Hd W w' (Sto b L m :: Rs) := by
  have := aopen_calls x n y z h
  rw [hq.out] at this
  exact this

set_option maxRecDepth 100000 in
set_option maxHeartbeats 4000000 in
theorem text_calls {W w : World} {Rs : List Res} {b : Nat} {L : List T} {m : Int} (x n y : Int) (s : ByteArray) (_hsz : s.size ≤ maxLen) (h : Hd W w (Sto b L m :: Rs)) :
    Calls Try.prog 64 #[.pointer (some ⟨b, 0, none⟩), .int .i64 x, .int .u64 n, .int .i64 y, .string s] w fun e w' => e = .returned (.tuple #[.int .i64 (text5 m L x n y s).1, .int .i64 (text5 m L x n y s).2.1]) ∧ Hd W w' (Sto b (text5 m L x n y s).2.2 m :: Rs) := by
  have H := hid h
  clear h
  obtain ⟨i1, hq⟩ : ∃ i1, getB L x = i1 := ⟨_, rfl⟩
  have Hi1 := hid hq
  clear hq
  obtain ⟨i2, hq⟩ : ∃ i2, getB L y = i2 := ⟨_, rfl⟩
  have Hi2 := hid hq
  clear hq
  obtain ⟨R, hR⟩ : ∃ R, text5 m L x n y s = R := ⟨_, rfl⟩
  rw [hR]
  have HR := hid hR
  clear hR
  rcases i1 with _ | _
  · skip
    go_enter Try.func64, Try.ntmps64
    go_wp2_with fail
    refine (ais_c x (by first | exact H.out | exact H.out.al | exact H.out.al.al | exact H.out.al.al.al | exact H.out.al.al.al.al)).mono ?_
    rw [Hi1.out]
    rintro e w1 ⟨rfl, h1⟩
    replace H := hid h1
    clear h1
    go_wp2_with fail
    go_ret2
    have hR := HR.out
    simp [text5, Hi1.out] at hR
    subst hR
    exact ⟨rfl, (by first | exact H.out | exact H.out.al | exact H.out.al.al | exact H.out.al.al.al | exact H.out.al.al.al.al)⟩
  rcases i2 with _ | _
  · skip
    go_enter Try.func64, Try.ntmps64
    go_wp2_with fail
    refine (ais_c x (by first | exact H.out | exact H.out.al | exact H.out.al.al | exact H.out.al.al.al | exact H.out.al.al.al.al)).mono ?_
    rw [Hi1.out]
    rintro e w2 ⟨rfl, h1⟩
    replace H := hid h1
    clear h1
    go_wp2_with fail
    refine (ais_c y (by first | exact H.out | exact H.out.al | exact H.out.al.al | exact H.out.al.al.al | exact H.out.al.al.al.al)).mono ?_
    rw [Hi2.out]
    rintro e w3 ⟨rfl, h1⟩
    replace H := hid h1
    clear h1
    go_wp2_with fail
    go_ret2
    have hR := HR.out
    simp [text5, Hi2.out] at hR
    subst hR
    exact ⟨rfl, (by first | exact H.out | exact H.out.al | exact H.out.al.al | exact H.out.al.al.al | exact H.out.al.al.al.al)⟩
  go_enter Try.func64, Try.ntmps64
  go_wp2_with fail
  refine (ais_c x (by first | exact H.out | exact H.out.al | exact H.out.al.al | exact H.out.al.al.al | exact H.out.al.al.al.al)).mono ?_
  rw [Hi1.out]
  rintro e w4 ⟨rfl, h1⟩
  replace H := hid h1
  clear h1
  go_wp2_with fail
  refine (ais_c y (by first | exact H.out | exact H.out.al | exact H.out.al.al | exact H.out.al.al.al | exact H.out.al.al.al.al)).mono ?_
  rw [Hi2.out]
  rintro e w5 ⟨rfl, h1⟩
  replace H := hid h1
  clear h1
  obtain ⟨r1, r2, L2, hq⟩ : ∃ r1 r2 L2, put m L (txtT s) = (r1, r2, L2) := ⟨_, _, _, rfl⟩
  have Hq1 := hid hq
  clear hq
  go_wp2_with fail
  refine (put_c 1 s 0 0 0 0 Hq1 (by first | exact H.out | exact H.out.al | exact H.out.al.al | exact H.out.al.al.al | exact H.out.al.al.al.al)).mono ?_
  rintro e w6 ⟨rfl, h1⟩
  replace H := hid h1
  clear h1
  by_cases hk : r2 = 0
  case neg =>
    have dE10 : (r2 != 0) = true := by simp [hk]
    have E1 := hid hk
    clear hk
    go_wp2_with fail
    go_ret2
    have hR := HR.out
    simp [text5, Hi1.out, Hi2.out, Hq1.out, E1.out] at hR
    subst hR
    exact ⟨rfl, (by first | exact H.out | exact H.out.al | exact H.out.al.al | exact H.out.al.al.al | exact H.out.al.al.al.al)⟩
  have dE10 : (r2 != 0) = false := by simp [hk]
  have E1 := hid hk
  clear hk
  obtain ⟨s1, s2, L3, hq⟩ : ∃ s1 s2 L3, put m L2 (seaT x n y r1) = (s1, s2, L3) := ⟨_, _, _, rfl⟩
  have Hq2 := hid hq
  clear hq
  go_wp2_with fail
  refine (seal_c x n y r1 Hq2 (by first | exact H.out | exact H.out.al | exact H.out.al.al | exact H.out.al.al.al | exact H.out.al.al.al.al)).mono ?_
  rintro e w7 ⟨rfl, h1⟩
  replace H := hid h1
  clear h1
  go_wp2_with fail
  go_ret2
  have hR := HR.out
  simp [text5, Hi1.out, Hi2.out, Hq1.out, E1.out, Hq2.out] at hR
  subst hR
  exact ⟨rfl, (by first | exact H.out | exact H.out.al | exact H.out.al.al | exact H.out.al.al.al | exact H.out.al.al.al.al)⟩

set_option maxRecDepth 100000 in
set_option maxHeartbeats 4000000 in
theorem read_calls {W w : World} {Rs : List Res} {b : Nat} {L : List T} {m : Int} (x n y z : Int) (h : Hd W w (Sto b L m :: Rs)) :
    Calls Try.prog 69 #[.pointer (some ⟨b, 0, none⟩), .int .i64 x, .int .u64 n, .int .i64 y, .int .i64 z] w fun e w' => e = .returned (.tuple #[.string (read5 L x n y z).1, .int .i64 (read5 L x n y z).2]) ∧ Hd W w' (Sto b L m :: Rs) := by
  have H := hid h
  clear h
  obtain ⟨p, e1, hq⟩ : ∃ p e1, open5 L x n y z = (p, e1) := ⟨_, _, rfl⟩
  have Hq1 := hid hq
  clear hq
  obtain ⟨R, hR⟩ : ∃ R, read5 L x n y z = R := ⟨_, rfl⟩
  rw [hR]
  have HR := hid hR
  clear hR
  by_cases hk : e1 = 0
  case neg =>
    have dE10 : (e1 != 0) = true := by simp [hk]
    have E1 := hid hk
    clear hk
    go_enter Try.func69, Try.ntmps69
    go_wp2_with fail
    refine (aopen_c x n y z Hq1 (by first | exact H.out | exact H.out.al | exact H.out.al.al | exact H.out.al.al.al | exact H.out.al.al.al.al)).mono ?_
    rintro e w1 ⟨rfl, h1⟩
    replace H := hid h1
    clear h1
    go_wp2_with fail
    go_ret2
    have hR := HR.out
    simp [read5, Hq1.out, E1.out] at hR
    subst hR
    exact ⟨rfl, (by first | exact H.out | exact H.out.al | exact H.out.al.al | exact H.out.al.al.al | exact H.out.al.al.al.al)⟩
  have dE10 : (e1 != 0) = false := by simp [hk]
  have E1 := hid hk
  clear hk
  obtain ⟨k, s9, n9, a, b2, c, hq⟩ : ∃ k s9 n9 a b2 c, getT L p = ⟨k, s9, n9, a, b2, c⟩ := ⟨_, _, _, _, _, _, rfl⟩
  have Ht := hid hq
  clear hq
  by_cases hk : k = 1
  case neg =>
    have dK0 : (k != 1) = true := by simp [hk]
    have K := hid hk
    clear hk
    go_enter Try.func69, Try.ntmps69
    go_wp2_with fail
    refine (aopen_c x n y z Hq1 (by first | exact H.out | exact H.out.al | exact H.out.al.al | exact H.out.al.al.al | exact H.out.al.al.al.al)).mono ?_
    rintro e w2 ⟨rfl, h1⟩
    replace H := hid h1
    clear h1
    obtain ⟨is, hi⟩ : ∃ is, getB L p = is := ⟨_, rfl⟩
    have Hi := hid hi
    clear hi
    go_wp2_with fail
    refine (get_c p (by first | exact H.out | exact H.out.al | exact H.out.al.al | exact H.out.al.al.al | exact H.out.al.al.al.al)).mono ?_
    rw [Ht.out, Hi.out]
    simp only [T.val]
    rintro e w3 ⟨rfl, h1⟩
    replace H := hid h1
    clear h1
    go_wp2_with fail
    go_ret2
    have hR := HR.out
    simp [read5, Hq1.out, E1.out, Ht.out, K.out] at hR
    subst hR
    exact ⟨rfl, (by first | exact H.out | exact H.out.al | exact H.out.al.al | exact H.out.al.al.al | exact H.out.al.al.al.al)⟩
  have dK0 : (k != 1) = false := by simp [hk]
  have K := hid hk
  clear hk
  go_enter Try.func69, Try.ntmps69
  go_wp2_with fail
  refine (aopen_c x n y z Hq1 (by first | exact H.out | exact H.out.al | exact H.out.al.al | exact H.out.al.al.al | exact H.out.al.al.al.al)).mono ?_
  rintro e w4 ⟨rfl, h1⟩
  replace H := hid h1
  clear h1
  obtain ⟨is, hi⟩ : ∃ is, getB L p = is := ⟨_, rfl⟩
  have Hi := hid hi
  clear hi
  go_wp2_with fail
  refine (get_c p (by first | exact H.out | exact H.out.al | exact H.out.al.al | exact H.out.al.al.al | exact H.out.al.al.al.al)).mono ?_
  rw [Ht.out, Hi.out]
  simp only [T.val]
  rintro e w5 ⟨rfl, h1⟩
  replace H := hid h1
  clear h1
  go_wp2_with fail
  go_ret2
  have hR := HR.out
  simp [read5, Hq1.out, E1.out, Ht.out, K.out] at hR
  subst hR
  exact ⟨rfl, (by first | exact H.out | exact H.out.al | exact H.out.al.al | exact H.out.al.al.al | exact H.out.al.al.al.al)⟩

end Go.Proofs.Ytpcfmafokkffgaa
namespace Go.Proofs.Ytpcfmafokkffgaa

/-- What it receives with. -/
structure Rc where
  ik : Int
  ie : Int
  nx : Int
  bt : Int
  es : List En

structure RcOk (y : Rc) : Prop where
  w : WIn y.nx y.bt
  ws : ∀ e ∈ y.es, WIn e.nx e.bt
  rises : Rises y.es
  len : y.es.length ≤ 4
  lo : 0 ≤ y.ie
  hi : y.ie ≤ 1000

def now19 (m : Int) (L : List T) (y : Rc) (n : Int) : Rc × Int × Int × List T :=
  if (wTake y.nx y.bt n).2 = 0 then
    (⟨y.ik, y.ie, (wTake y.nx y.bt n).1.1, (wTake y.nx y.bt n).1.2, y.es⟩, (put m L (keyT y.ik 1)).1, (put m L (keyT y.ik 1)).2.1, (put m L (keyT y.ik 1)).2.2)
  else (y, 0, (wTake y.nx y.bt n).2, L)

def puts19 : List En → Int → Int → Int → List Int → List En
  | es, _, _, _, [] => es
  | es, e, x, y, k :: ks => puts19 (kPut es ⟨e, k, x, y⟩).1 (e + 1) 0 0 ks

def later19 (m : Int) (L : List T) (y : Rc) (e n : Int) : Rc × Int × Int × List T :=
  if (to15 m L y.ik y.ie e).2.2.1 = 0 then
    now19 m (to15 m L y.ik y.ie e).2.2.2 ⟨(to15 m L y.ik y.ie e).1.1, (to15 m L y.ik y.ie e).1.2, 0, 0, puts19 y.es y.ie y.nx y.bt (to15 m L y.ik y.ie e).2.1⟩ n
  else (y, 0, (to15 m L y.ik y.ie e).2.2.1, (to15 m L y.ik y.ie e).2.2.2)

def ago19 (y : Rc) (e n : Int) : Rc × Int × Int :=
  if (kGet y.es e).2 = true then
    if (wTake (kGet y.es e).1.nx (kGet y.es e).1.bt n).2 = 0 then
      (⟨y.ik, y.ie, y.nx, y.bt, (kPut y.es ⟨(kGet y.es e).1.ep, (kGet y.es e).1.key, (wTake (kGet y.es e).1.nx (kGet y.es e).1.bt n).1.1, (wTake (kGet y.es e).1.nx (kGet y.es e).1.bt n).1.2⟩).1⟩, (kGet y.es e).1.key, 0)
    else (y, 0, (wTake (kGet y.es e).1.nx (kGet y.es e).1.bt n).2)
  else (y, 0, 12)

/-- One side of a session. -/
structure Se where
  ok : Int
  oe : Int
  sent : Int
  rc : Rc
  h : Int
  s : Int
  r : Int
  v : Int

structure SeOk (x : Se) : Prop where
  rc : RcOk x.rc
  oe0 : 0 ≤ x.oe
  oe1 : x.oe ≤ 1000
  s0 : 0 ≤ x.sent
  s1 : x.sent ≤ 256

def step19 (m : Int) (L : List T) (x : Se) : Int × Se × List T :=
  if (next15 m L x.ok x.oe).2.1 = 0 then (0, { x with ok := (next15 m L x.ok x.oe).1.1, oe := (next15 m L x.ok x.oe).1.2, sent := 0 }, (next15 m L x.ok x.oe).2.2)
  else ((next15 m L x.ok x.oe).2.1, x, (next15 m L x.ok x.oe).2.2)

/-- What is sealed with a chain, in its epoch, as the text of a number. -/
def sealW (m : Int) (L : List T) (k n h : Int) (s : ByteArray) : Int × Int × List T :=
  if (put m L (keyT k 1)).2.1 = 0 then text5 m (put m L (keyT k 1)).2.2 (put m L (keyT k 1)).1 n h s else (0, (put m L (keyT k 1)).2.1, (put m L (keyT k 1)).2.2)

def seal19 (m : Int) (L : List T) (x : Se) (s : ByteArray) : (Int × Int × Int × Int) × Se × List T :=
  if 1000 < (s.size : Int) then ((0, 0, 0, 1), x, L)
  else if 256 ≤ x.sent then
    if (next15 m L x.ok x.oe).2.1 = 0 then
      if (sealW m (next15 m L x.ok x.oe).2.2 (next15 m L x.ok x.oe).1.1 0 x.h s).2.1 = 0 then
        (((next15 m L x.ok x.oe).1.2, 0, (sealW m (next15 m L x.ok x.oe).2.2 (next15 m L x.ok x.oe).1.1 0 x.h s).1, 0), { x with ok := (next15 m L x.ok x.oe).1.1, oe := (next15 m L x.ok x.oe).1.2, sent := 1 }, (sealW m (next15 m L x.ok x.oe).2.2 (next15 m L x.ok x.oe).1.1 0 x.h s).2.2)
      else ((0, 0, 0, (sealW m (next15 m L x.ok x.oe).2.2 (next15 m L x.ok x.oe).1.1 0 x.h s).2.1), x, (sealW m (next15 m L x.ok x.oe).2.2 (next15 m L x.ok x.oe).1.1 0 x.h s).2.2)
    else ((0, 0, 0, (next15 m L x.ok x.oe).2.1), x, (next15 m L x.ok x.oe).2.2)
  else if (sealW m L x.ok x.sent x.h s).2.1 = 0 then ((x.oe, x.sent, (sealW m L x.ok x.sent x.h s).1, 0), { x with sent := x.sent + 1 }, (sealW m L x.ok x.sent x.h s).2.2)
  else ((0, 0, 0, (sealW m L x.ok x.sent x.h s).2.1), x, (sealW m L x.ok x.sent x.h s).2.2)

/-- What a side would receive with, and the key. -/
def recv19 (m : Int) (L : List T) (y : Rc) (e n : Int) : Rc × Int × Int × List T :=
  if e = y.ie then now19 m L y n else if y.ie < e then later19 m L y e n else ((ago19 y e n).1, (ago19 y e n).2.1, (ago19 y e n).2.2, L)

def open19 (m : Int) (L : List T) (x : Se) (e n c : Int) : (ByteArray × Int) × Se × List T :=
  if getB L c = true ∧ 0 ≤ e ∧ 0 ≤ n ∧ n < 256 then
    if (recv19 m L x.rc e n).2.2.1 = 0 then
      if (read5 (recv19 m L x.rc e n).2.2.2 (recv19 m L x.rc e n).2.1 n x.h c).2 = 0 then ((((read5 (recv19 m L x.rc e n).2.2.2 (recv19 m L x.rc e n).2.1 n x.h c).1), 0), { x with rc := (recv19 m L x.rc e n).1 }, (recv19 m L x.rc e n).2.2.2)
      else ((⟨#[]⟩, (read5 (recv19 m L x.rc e n).2.2.2 (recv19 m L x.rc e n).2.1 n x.h c).2), x, (recv19 m L x.rc e n).2.2.2)
    else ((⟨#[]⟩, (recv19 m L x.rc e n).2.2.1), x, (recv19 m L x.rc e n).2.2.2)
  else ((⟨#[]⟩, 1), x, L)

theorem wTake_err {x y n : Int} : (wTake x y n).2 = 0 ∨ (wTake x y n).2 = 12 := by
  unfold wTake
  split
  · split <;> exact .inl rfl
  · exact .inr rfl
theorem wIn_zero : WIn 0 0 := ⟨by decide, by decide, by decide, by decide, fun _ => rfl⟩

theorem now19_ok {m : Int} {L : List T} {y : Rc} {n : Int} (h : RcOk y) (hn : 0 ≤ n) (hn' : n ≤ 255) : RcOk (now19 m L y n).1 := by
  unfold now19
  split
  · exact ⟨wTake_in h.w hn hn', h.ws, h.rises, h.len, h.lo, h.hi⟩
  · exact h
theorem mem_kPut {es : List En} {e x : En} (h : Rises es) (h4 : es.length ≤ 4) (hx : x ∈ (kPut es e).1) : x = e ∨ x ∈ es := by
  rw [kPut_eq h h4] at hx
  unfold rPut at hx
  have key : ∀ z ∈ ins es e, z = e ∨ z ∈ es := fun z hz => (mem_ins.1 hz).imp id fun h => h.1
  split at hx
  · exact key x hx
  · exact key x (List.mem_of_mem_drop hx)
theorem puts19_ok : ∀ (ks : List Int) {es : List En} {e x y : Int}, WIn x y → Rises es → es.length ≤ 4 → (∀ z ∈ es, WIn z.nx z.bt) → Rises (puts19 es e x y ks) ∧ (puts19 es e x y ks).length ≤ 4 ∧ ∀ z ∈ puts19 es e x y ks, WIn z.nx z.bt
  | [], _, _, _, _, _, hr, h4, hw => ⟨hr, h4, hw⟩
  | k :: ks, es, e, x, y, hxy, hr, h4, hw => puts19_ok ks wIn_zero (kPut_rises hr h4 _) (kPut_length hr h4 _) fun z hz => by
    rcases mem_kPut hr h4 hz with rfl | hz
    · exact hxy
    · exact hw z hz
theorem to15_epoch {m : Int} {L : List T} {k e x : Int} {q : (Int × Int) × List Int × Int × List T} (hq : to15 m L k e x = q) (h0 : q.2.2.1 = 0) (he : 0 ≤ e) (he' : e ≤ 1000) : q.1.2 = x ∧ 0 ≤ x ∧ x ≤ 1000 ∧ q.2.1.length = (x - e).toNat ∧ e ≤ x ∧ x ≤ e + 4 := by
  have key : ∀ (n : Nat) (L : List T) (k e : Int), (steps15 m n L k e).2.2.1 = 0 → e ≤ 1000 → (steps15 m n L k e).2.1.2 = e + n ∧ (steps15 m n L k e).1.length = n ∧ e + n ≤ 1000 := by
    intro n
    induction n with
    | zero => intro L k e _ he; simp [steps15]; exact he
    | succ n ih =>
      intro L k e h1 he
      rw [steps15_succ] at h1 ⊢
      split at h1
      · rename_i h2
        split at h1
        · rename_i h3
          rw [if_pos h2, if_pos h3]
          have hn : next15 m (put m L (keyT k 1)).2.2 k e = (((next15 m (put m L (keyT k 1)).2.2 k e).1.1, (next15 m (put m L (keyT k 1)).2.2 k e).1.2), 0, (next15 m (put m L (keyT k 1)).2.2 k e).2.2) := by rw [← h3]
          obtain ⟨d1, d2, d3⟩ := next15_epoch hn
          dsimp only at h1 ⊢
          rw [d1] at h1 ⊢
          obtain ⟨i1, i2, i3⟩ := ih _ _ _ h1 (by omega)
          refine ⟨by rw [i1]; omega, by simp [i2], by omega⟩
        · rename_i h3
          exact absurd h1 h3
      · rename_i h2
        exact absurd h1 h2
  unfold to15 at hq
  split at hq
  · subst hq; simp at h0
  · split at hq
    · subst hq; simp at h0
    · split at hq
      · rename_i h1 h2 h3
        subst hq
        obtain ⟨i1, i2, i3⟩ := key _ _ _ _ h3 he'
        dsimp only
        refine ⟨by rw [i1]; omega, by omega, by omega, i2, by omega, by omega⟩
      · rename_i h3
        subst hq
        exact absurd h0 h3
theorem later19_ok {m : Int} {L : List T} {y : Rc} {e n : Int} (h : RcOk y) (hn : 0 ≤ n) (hn' : n ≤ 255) : RcOk (later19 m L y e n).1 := by
  unfold later19
  split
  · rename_i h0
    obtain ⟨k1, k2, k3, _⟩ := to15_epoch rfl h0 h.lo h.hi
    obtain ⟨p1, p2, p3⟩ := puts19_ok (to15 m L y.ik y.ie e).2.1 (e := y.ie) h.w h.rises h.len h.ws
    exact now19_ok ⟨wIn_zero, p3, p1, p2, by rw [k1]; exact k2, by rw [k1]; exact k3⟩ hn hn'
  · exact h
theorem kGet_mem {es : List En} {n : Int} (h : (kGet es n).2 = true) : (kGet es n).1 ∈ es ∧ (kGet es n).1.ep = n := by
  unfold kGet at h ⊢
  split at h
  · rename_i hi
    rw [if_pos hi]
    obtain ⟨e, he, hn⟩ := isAt_some hi
    dsimp only
    rw [List.getD_eq_getElem?_getD, he]
    exact ⟨List.mem_of_getElem? he, hn⟩
  · simp at h
theorem ago19_ok {y : Rc} {e n : Int} (h : RcOk y) (hn : 0 ≤ n) (hn' : n ≤ 255) : RcOk (ago19 y e n).1 := by
  unfold ago19
  split
  · rename_i hg
    split
    · refine ⟨h.w, fun z hz => ?_, kPut_rises h.rises h.len _, kPut_length h.rises h.len _, h.lo, h.hi⟩
      rcases mem_kPut h.rises h.len hz with rfl | hz
      · exact wTake_in (h.ws _ (kGet_mem hg).1) hn hn'
      · exact h.ws z hz
    · exact h
  · exact h
theorem recv19_ok {m : Int} {L : List T} {y : Rc} {e n : Int} (h : RcOk y) (hn : 0 ≤ n) (hn' : n ≤ 255) : RcOk (recv19 m L y e n).1 := by
  unfold recv19
  split
  · exact now19_ok h hn hn'
  · split
    · exact later19_ok h hn hn'
    · exact ago19_ok h hn hn'
theorem open19_ok {m : Int} {L : List T} {x : Se} {e n c : Int} (h : SeOk x) : SeOk (open19 m L x e n c).2.1 := by
  unfold open19
  split
  · rename_i hc
    split
    · split
      · exact ⟨recv19_ok h.rc hc.2.2.1 (by omega), h.oe0, h.oe1, h.s0, h.s1⟩
      · exact h
    · exact h
  · exact h
theorem step19_ok {m : Int} {L : List T} {x : Se} (h : SeOk x) : SeOk (step19 m L x).2.1 := by
  unfold step19
  split
  · rename_i h0
    have hn : next15 m L x.ok x.oe = (((next15 m L x.ok x.oe).1.1, (next15 m L x.ok x.oe).1.2), 0, (next15 m L x.ok x.oe).2.2) := by rw [← h0]
    obtain ⟨d1, d2, d3⟩ := next15_epoch hn
    exact ⟨h.rc, by dsimp only; omega, by dsimp only; omega, by dsimp only; omega, by dsimp only; omega⟩
  · exact h
theorem seal19_ok {m : Int} {L : List T} {x : Se} {s : ByteArray} (h : SeOk x) : SeOk (seal19 m L x s).2.1 := by
  unfold seal19
  split
  · exact h
  · split
    · split
      · split
        · rename_i h0 _
          have hn : next15 m L x.ok x.oe = (((next15 m L x.ok x.oe).1.1, (next15 m L x.ok x.oe).1.2), 0, (next15 m L x.ok x.oe).2.2) := by rw [← h0]
          obtain ⟨d1, d2, d3⟩ := next15_epoch hn
          exact ⟨h.rc, by dsimp only; omega, by dsimp only; omega, by dsimp only; omega, by dsimp only; omega⟩
        · exact h
      · exact h
    · split
      · exact ⟨h.rc, h.oe0, h.oe1, by have := h.s0; dsimp only; omega, by dsimp only; omega⟩
      · exact h
end Go.Proofs.Ytpcfmafokkffgaa
namespace Go.Proofs.Ytpcfmafokkffgaa
open Go.RowKit

/-- A chain, so many steps behind C. -/
def Ch (L : List T) (C : Int) : Nat → Int → Prop
  | 0, x => x = C
  | j + 1, x => ∃ k, Ch L C j k ∧ At L x (keyT k 2)
/-- An epoch's key. -/
def Ky (L : List T) (C : Int) (j : Nat) (y : Int) : Prop := ∃ k, Ch L C j k ∧ At L y (keyT k 1)
/-- A text, sealed. -/
def Sl (L : List T) (C h e n : Int) (t : ByteArray) (c : Int) : Prop := 0 ≤ e ∧ ∃ y p, Ky L C e.toNat y ∧ At L p (txtT t) ∧ At L c (seaT y n h p)
/-- It is a Nonce. -/
def Non (L : List T) (C : Int) : Prop := ∃ n, At L C (nonT n)

section
variable {L L' : List T} {C D h e n x y c : Int} {t : ByteArray}
theorem Non.ext (h : Non L C) (e : Ext L L') : Non L' C := by obtain ⟨n, h⟩ := h; exact ⟨n, h.ext e⟩
theorem Ch.ext (e : Ext L L') : ∀ {j : Nat} {x : Int}, Ch L C j x → Ch L' C j x
  | 0, _, h => h
  | _ + 1, _, ⟨k, h1, h2⟩ => ⟨k, Ch.ext e h1, h2.ext e⟩
theorem Ky.ext {j : Nat} (e : Ext L L') (h : Ky L C j y) : Ky L' C j y := by obtain ⟨k, h1, h2⟩ := h; exact ⟨k, h1.ext e, h2.ext e⟩
theorem Sl.ext (e1 : Ext L L') (hs : Sl L C h e n t c) : Sl L' C h e n t c := by
  obtain ⟨h0, y, p, h1, h2, h3⟩ := hs
  exact ⟨h0, y, p, h1.ext e1, h2.ext e1, h3.ext e1⟩
theorem Ch.inn (hC : Non L C) : ∀ {j : Nat} {x : Int}, Ch L C j x → 1 ≤ x ∧ x ≤ L.length
  | 0, _, h => by obtain ⟨n, hn⟩ := hC; subst h; exact ⟨hn.lo, hn.hi⟩
  | _ + 1, _, ⟨_, _, h⟩ => ⟨h.lo, h.hi⟩
theorem Ch.inj (hC : Non L C) (hD : Non L D) : ∀ {i j : Nat} {x : Int}, Ch L C i x → Ch L D j x → i = j ∧ C = D
  | 0, 0, _, h1, h2 => ⟨rfl, by rw [← h1, ← h2]⟩
  | 0, j + 1, _, h1, ⟨k, _, h2⟩ => by obtain ⟨n, hn⟩ := hC; subst h1; have := hn.same h2; simp [nonT, keyT] at this
  | i + 1, 0, _, ⟨k, _, h2⟩, h1 => by obtain ⟨n, hn⟩ := hD; subst h1; have := hn.same h2; simp [nonT, keyT] at this
  | i + 1, j + 1, _, ⟨k, h1, h2⟩, ⟨k', h3, h4⟩ => by
    have := keyT_inj.1 (h2.same h4)
    subst this
    obtain ⟨e1, e2⟩ := Ch.inj hC hD h1 h3
    exact ⟨by omega, e2⟩
theorem Ch.fn (g : Good L) : ∀ {j : Nat} {x y : Int}, Ch L C j x → Ch L C j y → x = y
  | 0, _, _, h1, h2 => by rw [h1, h2]
  | _ + 1, _, _, ⟨k, h1, h2⟩, ⟨k', h3, h4⟩ => by
    have := Ch.fn g h1 h3
    subst this
    exact h2.name g h4
theorem Ky.fn {j : Nat} (g : Good L) (h1 : Ky L C j x) (h2 : Ky L C j y) : x = y := by
  obtain ⟨k, a1, a2⟩ := h1
  obtain ⟨k', b1, b2⟩ := h2
  have := a1.fn g b1
  subst this
  exact a2.name g b2
theorem Ky.inj {i j : Nat} (hC : Non L C) (hD : Non L D) (h1 : Ky L C i x) (h2 : Ky L D j x) : i = j ∧ C = D := by
  obtain ⟨k, a1, a2⟩ := h1
  obtain ⟨k', b1, b2⟩ := h2
  have := keyT_inj.1 (a2.same b2)
  subst this
  exact a1.inj hC hD b1
theorem Ky.inn {j : Nat} (h1 : Ky L C j x) : 1 ≤ x ∧ x ≤ L.length := by obtain ⟨k, _, h⟩ := h1; exact ⟨h.lo, h.hi⟩
theorem Sl.inj {h' e' n' : Int} {t' : ByteArray} (hC : Non L C) (hD : Non L D) (h1 : Sl L C h e n t c) (h2 : Sl L D h' e' n' t' c) : C = D ∧ h = h' ∧ e = e' ∧ n = n' ∧ t = t' := by
  obtain ⟨a0, y, p, a1, a2, a3⟩ := h1
  obtain ⟨b0, y', p', b1, b2, b3⟩ := h2
  have := a3.same b3
  simp only [seaT, T.mk.injEq, true_and] at this
  obtain ⟨rfl, rfl, rfl, rfl⟩ := this
  obtain ⟨e1, e2⟩ := a1.inj hC hD b1
  have := a2.same b2
  simp only [txtT, T.mk.injEq, true_and, and_true] at this
  exact ⟨e2, rfl, by omega, rfl, this⟩
theorem Sl.inn (h1 : Sl L C h e n t c) : 1 ≤ c ∧ c ≤ L.length := by obtain ⟨_, _, _, _, _, h⟩ := h1; exact ⟨h.lo, h.hi⟩

/-- What is read. -/
theorem read5_of {p : Int} (g : Good L) (hp : At L p (txtT t)) (hc : At L c (seaT y n h p)) : read5 L y n h c = (t, 0) := by
  have hy := hc.part g (p := y) (by simp [seaT, T.parts, many])
  have hh := hc.part g (p := h) (by simp [seaT, T.parts, many])
  have b1 := (at_getT (L := L) hy.1 (by have := hc.hi; omega)).getT.2
  have b2 := (at_getT (L := L) hh.1 (by have := hc.hi; omega)).getT.2
  unfold read5 open5
  rw [hc.getT.1, b1, b2, hc.getT.2]
  simp only [seaT, and_self, if_true]
  rw [hp.getT.1]
  simp [txtT]
theorem getB_range {x : Int} (hx : getB L x = true) : 1 ≤ x ∧ x ≤ L.length := by
  unfold getB get at hx
  split at hx
  · rename_i h1
    rw [Option.isSome_iff_exists] at hx
    obtain ⟨a, ha⟩ := hx
    have := (List.getElem?_eq_some_iff.1 ha).1
    omega
  · simp at hx
theorem txt_is {p : Int} {u : T} (g : Good L) (hp : At L p u) (hk : u.k = 1) : u = txtT u.s := by
  have hm := (hp.may g).2.2.1
  obtain ⟨uk, us, un, ua, ub, uc⟩ := u
  simp only at hk
  subst hk
  rw [hm]
  simp [T.only, many, txtT]
theorem read5_is (g : Good L) (hr : (read5 L y n h c).2 = 0) : ∃ p, At L p (txtT (read5 L y n h c).1) ∧ At L c (seaT y n h p) := by
  unfold read5 at hr ⊢
  split at hr
  · rename_i h0
    rw [if_pos h0]
    split at hr
    · rename_i hk
      rw [if_pos hk]
      unfold open5 at h0 hk ⊢
      split at h0
      · rename_i hb
        rw [if_pos hb] at hk ⊢
        split at h0
        · rename_i hs
          rw [if_pos hs] at hk ⊢
          dsimp only at hk ⊢
          obtain ⟨c1, c2⟩ := getB_range hb.2.2
          have hc := at_getT c1 c2
          have hp := hc.part g (p := (getT L c).c) (by rw [hs]; simp [seaT, T.parts, many])
          have hp2 := at_getT (L := L) hp.1 (by omega)
          refine ⟨(getT L c).c, ?_, ?_⟩
          · rw [txt_is g hp2 hk] at hp2; exact hp2
          · rw [← hs]; exact hc
        · simp at h0
      · simp at h0
    · simp at hr
  · rename_i h0
    exact absurd hr h0
theorem read5_no (g : Good L) (hy : getB L y = true) (hh : getB L h = true) (hc : getB L c = true) (hno : ¬ ∃ p t, At L p (txtT t) ∧ At L c (seaT y n h p)) : read5 L y n h c = (⟨#[]⟩, 9) := by
  by_cases h0 : (read5 L y n h c).2 = 0
  · obtain ⟨p, h1, h2⟩ := read5_is g h0
    exact absurd ⟨p, _, h1, h2⟩ hno
  · unfold read5 at h0 ⊢
    split at h0
    · rename_i h1
      rw [if_pos h1]
      split at h0
      · exact absurd rfl h0
      · rename_i h2
        rw [if_neg h2]
    · rename_i h1
      rw [if_neg h1]
      unfold open5 at h1 ⊢
      rw [if_pos ⟨hy, hh, hc⟩] at h1 ⊢
      split at h1
      · exact absurd rfl h1
      · rename_i h2
        rw [if_neg h2]
theorem put_hit {m : Int} {u : T} (h0 : (put m L u).2.1 = 0) : At (put m L u).2.2 (put m L u).1 u := by
  unfold put at h0 ⊢
  split at h0
  · rename_i hm
    rw [if_pos hm]
    split at h0
    · rename_i i hf
      exact find_at hf
    · split at h0
      · simp at h0
      · rename_i h1
        rw [if_neg h1]
        exact at_snoc L u
  · simp at h0

/-- A window in which a number can't come (again). -/
theorem wCan_no : wCan x y n = false ↔ n < x ∧ (x - 1 - n < 64 → y.toNat.testBit (x - 1 - n).toNat = true) := by
  unfold wCan
  simp only [Bool.or_eq_false_iff, decide_eq_false_iff_not, Bool.and_eq_false_iff, Bool.not_eq_false']
  constructor
  · rintro ⟨h1, h2⟩
    exact ⟨by omega, fun h3 => h2.resolve_left (fun h4 => h4 h3)⟩
  · rintro ⟨h1, h2⟩
    refine ⟨by omega, ?_⟩
    by_cases h3 : x - 1 - n < 64
    · exact .inr (h2 h3)
    · exact .inl h3
theorem wTake_shut {n' : Int} (_hw : WIn x y) (_hn : 0 ≤ n') (h0 : (wTake x y n).2 = 0) (hs : wCan x y n' = false ∨ n' = n) : wCan (wTake x y n).1.1 (wTake x y n).1.2 n' = false := by
  unfold wTake at h0 ⊢
  split at h0
  · rename_i hc
    rw [if_pos hc]
    split
    · rename_i hlt
      dsimp only
      rw [wCan_no]
      rcases hs with hs | rfl
      · rw [wCan_no] at hs
        refine ⟨hs.1, fun h3 => ?_⟩
        rw [Int.toNat_natCast, Nat.testBit_or, hs.2 h3]
        rfl
      · refine ⟨hlt, fun h3 => ?_⟩
        rw [Int.toNat_natCast, Nat.testBit_or, Nat.testBit_two_pow_self, Bool.or_true]
    · rename_i hge
      dsimp only
      rw [wCan_no]
      rcases hs with hs | rfl
      · rw [wCan_no] at hs
        refine ⟨by omega, fun h3 => ?_⟩
        have e1 : (n + 1 - 1 - n').toNat = (x - 1 - n').toNat + (n + 1 - x).toNat := by omega
        rw [Int.toNat_natCast, Nat.testBit_or, Nat.testBit_mod_two_pow, e1, Nat.testBit_mul_two_pow, Nat.add_sub_cancel, hs.2 (by omega)]
        simp
        omega
      · refine ⟨by omega, fun h3 => ?_⟩
        have e1 : (n' + 1 - 1 - n').toNat = 0 := by omega
        rw [Int.toNat_natCast, Nat.testBit_or, e1]
        simp
  · simp at h0
theorem wTake_yes (h : wCan x y n = true) : (wTake x y n).2 = 0 := by
  unfold wTake
  rw [if_pos h]
  split <;> rfl
theorem wTake_no (h : wCan x y n = false) : (wTake x y n).2 = 12 := by
  unfold wTake
  rw [h]
  rfl
theorem wTake_can (h : (wTake x y n).2 = 0) : wCan x y n = true := by
  cases hc : wCan x y n with
  | true => rfl
  | false => rw [wTake_no hc] at h; simp at h

/-- The store, whatever is done. -/
def Grow (L L' : List T) (N : Nat) : Prop := Ext L L' ∧ Good L' ∧ L'.length ≤ L.length + N
theorem Grow.refl (g : Good L) {N : Nat} : Grow L L N := ⟨Ext.refl L, g, by omega⟩
theorem Grow.trans {L2 : List T} {M N K : Nat} (h1 : Grow L L' M) (h2 : Good L' → Grow L' L2 N) (hK : M + N ≤ K) : Grow L L2 K := by
  have h3 := h2 h1.2.1
  exact ⟨h1.1.trans h3.1, h3.2.1, by have := h1.2.2; have := h3.2.2; omega⟩
theorem grow_put (m : Int) (u : T) (g : Good L) : Grow L (put m L u).2.2 1 := ⟨put_ext m L u, Good.put m u g, put_len m L u⟩
theorem Grow.mono {M N : Nat} (h : Grow L L' M) (hN : M ≤ N) : Grow L L' N := ⟨h.1, h.2.1, by have := h.2.2; omega⟩
theorem grow_next (m k e : Int) (g : Good L) : Grow L (next15 m L k e).2.2 1 := by
  unfold next15
  split
  · exact Grow.refl g
  · split <;> exact grow_put m _ g
theorem grow_steps (m : Int) : ∀ (n : Nat) {L : List T} (k e : Int), Good L → Grow L (steps15 m n L k e).2.2.2 (2 * n)
  | 0, L, k, e, g => Grow.refl g
  | n + 1, L, k, e, g => by
    rw [steps15_succ]
    split
    · split
      · exact (grow_put m (keyT k 1) g).trans (fun g1 => (grow_next m k e g1).trans (fun g2 => grow_steps m n _ _ g2) (Nat.le_refl _)) (by omega)
      · exact (grow_put m (keyT k 1) g).trans (fun g1 => grow_next m k e g1) (by omega)
    · exact (grow_put m (keyT k 1) g).mono (by omega)
theorem grow_to (m k e x : Int) (g : Good L) : Grow L (to15 m L k e x).2.2.2 8 := by
  unfold to15
  split
  · exact Grow.refl g
  · split
    · exact Grow.refl g
    · split <;> exact (grow_steps m _ _ _ g).mono (by omega)
theorem grow_now (m n : Int) (r : Rc) (g : Good L) : Grow L (now19 m L r n).2.2.2 1 := by
  unfold now19
  split
  · exact grow_put m _ g
  · exact Grow.refl g
theorem grow_recv (m e n : Int) (r : Rc) (g : Good L) : Grow L (recv19 m L r e n).2.2.2 9 := by
  unfold recv19
  split
  · exact (grow_now m n r g).mono (by omega)
  · split
    · unfold later19
      split
      · exact (grow_to m _ _ _ g).trans (fun g1 => grow_now m n _ g1) (by omega)
      · exact (grow_to m _ _ _ g).mono (by omega)
    · exact Grow.refl g
theorem grow_open (m e n c : Int) (r : Se) (g : Good L) : Grow L (open19 m L r e n c).2.2 9 := by
  unfold open19
  split
  · split
    · split <;> exact grow_recv m e n _ g
    · exact grow_recv m e n _ g
  · exact Grow.refl g

theorem next_ch {m k : Int} {j : Nat} (h : Ch L C j k) (h0 : (next15 m L k e).2.1 = 0) : Ch (next15 m L k e).2.2 C (j + 1) (next15 m L k e).1.1 := by
  unfold next15 at h0 ⊢
  split at h0
  · simp at h0
  · rename_i h1
    rw [if_neg h1]
    split at h0
    · rename_i h2
      rw [if_pos h2]
      exact ⟨k, h.ext (put_ext m L _), put_hit h2⟩
    · rename_i h2
      exact absurd h0 h2
theorem steps_ch (m : Int) : ∀ (n : Nat) {L : List T} {k e : Int} {j : Nat}, Good L → Ch L C j k → (steps15 m n L k e).2.2.1 = 0 →
    Ch (steps15 m n L k e).2.2.2 C (j + n) (steps15 m n L k e).2.1.1 ∧ ∀ i, i < n → Ky (steps15 m n L k e).2.2.2 C (j + i) ((steps15 m n L k e).1.getD i 0)
  | 0, L, k, e, j, g, h, _ => ⟨h, fun i hi => absurd hi (by omega)⟩
  | n + 1, L, k, e, j, g, h, h0 => by
    rw [steps15_succ] at h0 ⊢
    split at h0
    · rename_i h1
      rw [if_pos h1]
      split at h0
      · rename_i h2
        rw [if_pos h2]
        have g1 := grow_put m (keyT k 1) g
        have g2 := grow_next m k e g1.2.1
        have c1 := next_ch (h.ext g1.1) h2
        have g3 := grow_steps m n (next15 m (put m L (keyT k 1)).2.2 k e).1.1 (next15 m (put m L (keyT k 1)).2.2 k e).1.2 g2.2.1
        obtain ⟨i1, i2⟩ := steps_ch m n g2.2.1 c1 h0
        dsimp only
        refine ⟨by rw [show j + (n + 1) = j + 1 + n by omega]; exact i1, fun i hi => ?_⟩
        cases i with
        | zero => exact ⟨k, h.ext ((g1.1.trans g2.1).trans g3.1), (put_hit h1).ext (g2.1.trans g3.1)⟩
        | succ i =>
          have := i2 i (by omega)
          rw [show j + (i + 1) = j + 1 + i by omega]
          simpa using this
      · rename_i h2
        exact absurd h0 h2
    · rename_i h1
      exact absurd h0 h1
theorem steps_len (m : Int) : ∀ (n : Nat) {L : List T} {k e : Int}, (steps15 m n L k e).1.length ≤ n
  | 0, _, _, _ => Nat.le_refl _
  | n + 1, L, k, e => by
    rw [steps15_succ]
    split
    · split
      · have := steps_len m n (L := (next15 m (put m L (keyT k 1)).2.2 k e).2.2) (k := (next15 m (put m L (keyT k 1)).2.2 k e).1.1) (e := (next15 m (put m L (keyT k 1)).2.2 k e).1.2)
        dsimp only
        rw [List.length_cons]
        omega
      · exact Nat.zero_le _
    · exact Nat.zero_le _
theorem to_ch {m k : Int} (g : Good L) (he : 0 ≤ e) (h : Ch L C e.toNat k) (h0 : (to15 m L k e x).2.2.1 = 0) :
    Ch (to15 m L k e x).2.2.2 C x.toNat (to15 m L k e x).1.1 ∧ ∀ i, i < (to15 m L k e x).2.1.length → Ky (to15 m L k e x).2.2.2 C (e + i).toNat ((to15 m L k e x).2.1.getD i 0) := by
  unfold to15 at h0 ⊢
  split at h0
  · simp at h0
  · rename_i a1
    rw [if_neg a1]
    split at h0
    · simp at h0
    · rename_i a2
      rw [if_neg a2]
      split at h0
      · rename_i a3
        rw [if_pos a3]
        obtain ⟨i1, i2⟩ := steps_ch m (x - e).toNat g h a3
        dsimp only
        refine ⟨by rw [show x.toNat = e.toNat + (x - e).toNat by omega]; exact i1, fun i hi => ?_⟩
        have hl : (steps15 m (x - e).toNat L k e).1.length ≤ (x - e).toNat := steps_len m _
        rw [show (e + i).toNat = e.toNat + i by omega]
        exact i2 i (by omega)
      · rename_i a3
        exact absurd h0 a3

/-- A receiver that hangs on a chain. -/
structure Rv (L : List T) (C : Int) (r : Rc) : Prop where
  lo : 0 ≤ r.ie
  ch : Ch L C r.ie.toNat r.ik
  es : ∀ z ∈ r.es, 0 ≤ z.ep ∧ z.ep < r.ie ∧ Ky L C z.ep.toNat z.key
theorem Rv.ext {r : Rc} (h : Rv L C r) (e : Ext L L') : Rv L' C r := ⟨h.lo, h.ch.ext e, fun z hz => ⟨(h.es z hz).1, (h.es z hz).2.1, (h.es z hz).2.2.ext e⟩⟩
/-- It takes a text of this epoch, and of this number, no more. -/
def Shut (r : Rc) (e n : Int) : Prop := e ≤ r.ie ∧ (e = r.ie → wCan r.nx r.bt n = false) ∧ ∀ z ∈ r.es, z.ep = e → wCan z.nx z.bt n = false

theorem mem_kPut' {es : List En} {e x : En} (h : Rises es) (h4 : es.length ≤ 4) (hx : x ∈ (kPut es e).1) : x = e ∨ x ∈ es ∧ x.ep ≠ e.ep := by
  rw [kPut_eq h h4] at hx
  unfold rPut at hx
  split at hx
  · exact mem_ins.1 hx
  · exact mem_ins.1 (List.mem_of_mem_drop hx)
theorem mem_puts : ∀ (ks : List Int) {es : List En} {e x y : Int} {z : En}, Rises es → es.length ≤ 4 → z ∈ puts19 es e x y ks → z ∈ es ∨ ∃ i, i < ks.length ∧ z.ep = e + i ∧ z.key = ks.getD i 0 ∧ (i = 0 → z.nx = x ∧ z.bt = y)
  | [], _, _, _, _, _, _, _, hz => .inl hz
  | k :: ks, es, e, x, y, z, hr, h4, hz => by
    rcases mem_puts ks (kPut_rises hr h4 _) (kPut_length hr h4 _) hz with h | ⟨i, h1, h2, h3, h5⟩
    · rcases mem_kPut hr h4 h with rfl | h
      · exact .inr ⟨0, by simp, by simp, by simp, fun _ => ⟨rfl, rfl⟩⟩
      · exact .inl h
    · exact .inr ⟨i + 1, by simp; omega, by rw [h2]; omega, by simpa using h3, fun e => by omega⟩

theorem now_spec {m : Int} {r : Rc} (hr : RcOk r) (hv : Rv L C r) (hn : 0 ≤ n) (h0 : (now19 m L r n).2.2.1 = 0) :
    Ky (now19 m L r n).2.2.2 C r.ie.toNat (now19 m L r n).2.1 ∧ Rv (now19 m L r n).2.2.2 C (now19 m L r n).1 ∧ (now19 m L r n).1.ie = r.ie ∧ (now19 m L r n).1.es = r.es ∧ wCan r.nx r.bt n = true ∧ wCan (now19 m L r n).1.nx (now19 m L r n).1.bt n = false ∧
      ∀ n', 0 ≤ n' → wCan r.nx r.bt n' = false → wCan (now19 m L r n).1.nx (now19 m L r n).1.bt n' = false := by
  unfold now19 at h0 ⊢
  split at h0
  · rename_i h1
    rw [if_pos h1]
    dsimp only at h0 ⊢
    have hv' := hv.ext (put_ext m L (keyT r.ik 1))
    exact ⟨⟨r.ik, hv'.ch, put_hit h0⟩, ⟨hv'.lo, hv'.ch, hv'.es⟩, rfl, rfl, wTake_can h1, wTake_shut hr.w hn h1 (.inr rfl), fun n' h2 h3 => wTake_shut hr.w h2 h1 (.inl h3)⟩
  · rename_i h1
    exact absurd h0 h1

theorem recv_spec {m : Int} {r : Rc} (g : Good L) (hr : RcOk r) (hv : Rv L C r) (hn : 0 ≤ n) (he : 0 ≤ e) (h0 : (recv19 m L r e n).2.2.1 = 0) :
    Ky (recv19 m L r e n).2.2.2 C e.toNat (recv19 m L r e n).2.1 ∧ Rv (recv19 m L r e n).2.2.2 C (recv19 m L r e n).1 ∧ ¬ Shut r e n ∧ Shut (recv19 m L r e n).1 e n ∧ ∀ e' n', 0 ≤ n' → Shut r e' n' → Shut (recv19 m L r e n).1 e' n' := by
  unfold recv19 at h0 ⊢
  split at h0
  · rename_i h1
    subst h1
    rw [if_pos rfl]
    obtain ⟨k1, k2, k3, k4, k5, k6, k7⟩ := now_spec hr hv hn h0
    refine ⟨k1, k2, fun hs => ?_, ⟨by rw [k3]; omega, fun _ => k6, fun z hz he => ?_⟩, fun e' n' hn' hs => ⟨by rw [k3]; exact hs.1, fun h => k7 n' hn' (hs.2.1 (by rw [h, k3])), fun z hz => hs.2.2 z (by rw [← k4]; exact hz)⟩⟩
    · rw [hs.2.1 rfl] at k5; exact absurd k5 (by decide)
    · rw [k4] at hz
      have := (hv.es z hz).2.1
      omega
  · rename_i h1
    rw [if_neg h1]
    split at h0
    · rename_i h2
      rw [if_pos h2]
      unfold later19 at h0 ⊢
      split at h0
      · rename_i h3
        rw [if_pos h3]
        obtain ⟨t1, t2⟩ := to_ch (x := e) g hv.lo hv.ch h3
        obtain ⟨u1, u2, u3, u4, u5, u6⟩ := to15_epoch (q := to15 m L r.ik r.ie e) rfl h3 hv.lo hr.hi
        have gt := grow_to m r.ik r.ie e g
        have hv' := hv.ext gt.1
        generalize to15 m L r.ik r.ie e = q at *
        obtain ⟨⟨qk, qe⟩, ks, qr, L1⟩ := q
        dsimp only at *
        subst u1
        have hmem : ∀ z ∈ puts19 r.es r.ie r.nx r.bt ks, 0 ≤ z.ep ∧ z.ep < qe ∧ Ky L1 C z.ep.toNat z.key := fun z hz => by
          rcases mem_puts ks hr.rises hr.len hz with h | ⟨i, i1, i2, i3, _⟩
          · have := hv'.es z h
            exact ⟨this.1, by omega, this.2.2⟩
          · refine ⟨by have := hv.lo; omega, by omega, ?_⟩
            rw [i2, i3]
            exact t2 i i1
        have hok : RcOk ⟨qk, qe, 0, 0, puts19 r.es r.ie r.nx r.bt ks⟩ := by
          obtain ⟨p1, p2, p3⟩ := puts19_ok ks (e := r.ie) hr.w hr.rises hr.len hr.ws
          exact ⟨wIn_zero, p3, p1, p2, he, u3⟩
        have hrv : Rv L1 C ⟨qk, qe, 0, 0, puts19 r.es r.ie r.nx r.bt ks⟩ := ⟨he, t1, hmem⟩
        obtain ⟨k1, k2, k3, k4, k5, k6, k7⟩ := now_spec hok hrv hn h0
        refine ⟨k1, k2, fun hs => by have := hs.1; omega, ⟨by rw [k3]; exact Int.le_refl _, fun _ => k6, fun z hz he => ?_⟩, fun e' n' hn' hs => ⟨by rw [k3]; have := hs.1; dsimp only; omega, fun h => ?_, fun z hz hze => ?_⟩⟩
        · rw [k4] at hz
          have := (hmem z hz).2.1
          omega
        · rw [k3] at h
          have := hs.1
          dsimp only at h
          omega
        · rw [k4] at hz
          rcases mem_puts ks hr.rises hr.len hz with h | ⟨i, i1, i2, _, i4⟩
          · exact hs.2.2 z h hze
          · have := hs.1
            obtain rfl : i = 0 := by omega
            rw [(i4 rfl).1, (i4 rfl).2]
            exact hs.2.1 (by omega)
      · rename_i h3
        exact absurd h0 h3
    · rename_i h2
      rw [if_neg h2]
      unfold ago19 at h0 ⊢
      split at h0
      · rename_i h3
        rw [if_pos h3]
        split at h0
        · rename_i h4
          rw [if_pos h4]
          obtain ⟨m1, m2⟩ := kGet_mem h3
          generalize (kGet r.es e).1 = z at *
          subst m2
          have hz := hv.es z m1
          have wz := hr.ws z m1
          dsimp only
          refine ⟨hz.2.2, ⟨hv.lo, hv.ch, fun y hy => ?_⟩, fun hs => ?_, ⟨by dsimp only; omega, fun h => absurd h h1, fun y hy hye => ?_⟩, fun e' n' hn' hs => ⟨hs.1, hs.2.1, fun y hy hye => ?_⟩⟩
          · rcases mem_kPut hr.rises hr.len hy with rfl | hy
            · exact hz
            · exact hv.es y hy
          · rw [wTake_no (hs.2.2 z m1 rfl)] at h4
            exact absurd h4 (by decide)
          · rcases mem_kPut' hr.rises hr.len hy with rfl | ⟨_, hy⟩
            · exact wTake_shut wz hn h4 (.inr rfl)
            · exact absurd hye hy
          · rcases mem_kPut' hr.rises hr.len hy with rfl | ⟨hy, _⟩
            · exact wTake_shut wz hn' h4 (.inl (hs.2.2 z m1 hye))
            · exact hs.2.2 y hy hye
        · rename_i h4
          exact absurd h0 h4
      · simp at h0

/-- What is opened was sealed, with this epoch, number and hash; and is not opened again. -/
theorem open_spec {m : Int} {r : Se} (g : Good L) (hr : SeOk r) (hv : Rv L C r.rc) :
    Rv (open19 m L r e n c).2.2 C (open19 m L r e n c).2.1.rc ∧ (open19 m L r e n c).2.1 = { r with rc := (open19 m L r e n c).2.1.rc } ∧
      ((open19 m L r e n c).1.2 = 0 → Sl (open19 m L r e n c).2.2 C r.h e n (open19 m L r e n c).1.1 c ∧ ¬ Shut r.rc e n ∧ Shut (open19 m L r e n c).2.1.rc e n) ∧
      ((open19 m L r e n c).1.2 ≠ 0 → (open19 m L r e n c).2.1 = r) ∧ ∀ e' n', 0 ≤ n' → Shut r.rc e' n' → Shut (open19 m L r e n c).2.1.rc e' n' := by
  have gr := grow_recv m e n r.rc g
  unfold open19
  split
  · rename_i hc
    split
    · rename_i h0
      obtain ⟨k1, k2, k3, k4, k5⟩ := recv_spec g hr.rc hv hc.2.2.1 hc.2.1 h0
      split
      · rename_i h1
        obtain ⟨p, p1, p2⟩ := read5_is gr.2.1 h1
        exact ⟨k2, rfl, fun _ => ⟨⟨hc.2.1, _, p, k1, p1, p2⟩, k3, k4⟩, fun h => absurd rfl h, k5⟩
      · rename_i h1
        exact ⟨hv.ext gr.1, rfl, fun h => absurd h h1, fun _ => rfl, fun _ _ _ h => h⟩
    · rename_i h0
      exact ⟨hv.ext gr.1, rfl, fun h => absurd h h0, fun _ => rfl, fun _ _ _ h => h⟩
  · exact ⟨hv, rfl, fun h => by simp at h, fun _ => rfl, fun _ _ _ h => h⟩
end
end Go.Proofs.Ytpcfmafokkffgaa
namespace Go.Proofs.Ytpcfmafokkffgaa
open Go.RowKit

section
variable {L L' : List T} {C D h e n x y c : Int} {t s : ByteArray} {m : Int}
theorem sealW_spec {k : Int} {j : Nat} (g : Good L) (hC : Non L C) (hh : 1 ≤ h ∧ h ≤ L.length) (hk : Ch L C j k) (hs : s.size ≤ 1000) (hroom : (L.length : Int) + 3 ≤ m) :
    ∃ c L', sealW m L k n h s = (c, 0, L') ∧ (∃ y p, Ky L' C j y ∧ At L' p (txtT s) ∧ At L' c (seaT y n h p)) ∧ Grow L L' 3 := by
  obtain ⟨hk1, hk2⟩ := hk.inn hC
  obtain ⟨i, L1, p1, a1, e1, g1, l1⟩ := put_ok (m := m) (L := L) (t := keyT k 1) g (may_key.2 ⟨hk1, hk2⟩) (by omega)
  obtain ⟨p, L2, p2, a2, e2, g2, l2⟩ := put_ok (m := m) (L := L1) (t := txtT s) g1 (may_txt s hs) (by omega)
  have t1 := e1.len
  have t2 := e2.len
  obtain ⟨c, L3, p3, a3, e3, g3, l3⟩ := put_ok (m := m) (L := L2) (t := seaT i n h p) g2 (may_sea.2 ⟨⟨a1.lo, by have := a1.hi; omega⟩, ⟨hh.1, by omega⟩, ⟨a2.lo, a2.hi⟩⟩) (by omega)
  refine ⟨c, L3, ?_, ⟨i, p, ⟨k, hk.ext ((e1.trans e2).trans e3), a1.ext (e2.trans e3)⟩, a2.ext e3, a3⟩, (e1.trans e2).trans e3, g3, by omega⟩
  unfold sealW
  rw [p1]
  dsimp only
  rw [if_pos rfl]
  unfold text5
  rw [if_pos ⟨a1.getT.2, (at_getT hh.1 (by omega)).getT.2⟩, p2]
  dsimp only
  rw [if_pos rfl, p3]

/-- A sender that hangs on a chain. -/
structure Sd (L : List T) (C h : Int) (x : Se) : Prop where
  ch : Ch L C x.oe.toNat x.ok
  h : x.h = h
theorem Sd.ext {x : Se} (hx : Sd L C h x) (e : Ext L L') : Sd L' C h x := ⟨hx.ch.ext e, hx.h⟩

theorem seal_spec {x : Se} (g : Good L) (hC : Non L C) (hh : 1 ≤ h ∧ h ≤ L.length) (hx : SeOk x) (hd : Sd L C h x) (hs : s.size ≤ 1000) (hlt : x.sent < 256) (hroom : (L.length : Int) + 3 ≤ m) :
    ∃ c L', seal19 m L x s = ((x.oe, x.sent, c, 0), { x with sent := x.sent + 1 }, L') ∧ Sl L' C h x.oe x.sent s c ∧ Grow L L' 3 := by
  obtain ⟨c, L', p1, p2, p3⟩ := sealW_spec (n := x.sent) (h := h) (s := s) (m := m) g hC hh hd.ch hs hroom
  refine ⟨c, L', ?_, ⟨hx.oe0, p2⟩, p3⟩
  unfold seal19
  rw [if_neg (by omega), if_neg (by omega), hd.h, p1]
  rfl
theorem next_spec {k : Int} (g : Good L) (hC : Non L C) (he : 0 ≤ e) (he' : e < 1000) (hk : Ch L C e.toNat k) (hroom : (L.length : Int) + 1 ≤ m) :
    ∃ u L', next15 m L k e = ((u, e + 1), 0, L') ∧ Ch L' C (e + 1).toNat u ∧ Grow L L' 1 := by
  obtain ⟨hk1, hk2⟩ := hk.inn hC
  obtain ⟨u, L1, p1, a1, e1, g1, l1⟩ := put_ok (m := m) (L := L) (t := keyT k 2) g (may_key.2 ⟨hk1, hk2⟩) (by omega)
  refine ⟨u, L1, next15_of he he' p1, ?_, e1, g1, l1⟩
  rw [show (e + 1).toNat = e.toNat + 1 by omega]
  exact ⟨k, hk.ext e1, a1⟩
theorem seal_full {x : Se} (g : Good L) (hC : Non L C) (hh : 1 ≤ h ∧ h ≤ L.length) (hx : SeOk x) (hd : Sd L C h x) (hs : s.size ≤ 1000) (hge : 256 ≤ x.sent) (he : x.oe < 1000) (hroom : (L.length : Int) + 4 ≤ m) :
    ∃ k c L', seal19 m L x s = ((x.oe + 1, 0, c, 0), { x with ok := k, oe := x.oe + 1, sent := 1 }, L') ∧ Ch L' C (x.oe + 1).toNat k ∧ Sl L' C h (x.oe + 1) 0 s c ∧ Grow L L' 4 := by
  obtain ⟨u, L1, q1, q2, q3⟩ := next_spec (m := m) g hC hx.oe0 he hd.ch (by omega)
  obtain ⟨c, L', p1, p2, p3⟩ := sealW_spec (n := 0) (h := h) (s := s) (m := m) q3.2.1 (hC.ext q3.1) ⟨hh.1, by have := q3.1.len; omega⟩ q2 hs (by have := q3.2.2; omega)
  refine ⟨u, c, L', ?_, q2.ext p3.1, ⟨by have := hx.oe0; omega, p2⟩, q3.trans (fun _ => p3) (by omega)⟩
  unfold seal19
  rw [if_neg (by omega), if_pos hge, q1]
  dsimp only
  rw [if_pos rfl, hd.h, p1]
  rfl
theorem step_spec {x : Se} (g : Good L) (hC : Non L C) (hx : SeOk x) (hd : Sd L C h x) (he : x.oe < 1000) (hroom : (L.length : Int) + 1 ≤ m) :
    ∃ k L', step19 m L x = (0, { x with ok := k, oe := x.oe + 1, sent := 0 }, L') ∧ Sd L' C h { x with ok := k, oe := x.oe + 1, sent := 0 } ∧ Grow L L' 1 := by
  obtain ⟨u, L1, q1, q2, q3⟩ := next_spec (m := m) g hC hx.oe0 he hd.ch hroom
  refine ⟨u, L1, ?_, ⟨q2, hd.h⟩, q3⟩
  unfold step19
  rw [q1]
  rfl

theorem open_live {r : Se} (g : Good L) (hr : SeOk r) (hv : Rv L C r.rc) (hs : Sl L C r.h e n t c) (hn : 0 ≤ n) (hn' : n < 256) (h0 : (recv19 m L r.rc e n).2.2.1 = 0) :
    open19 m L r e n c = ((t, 0), { r with rc := (recv19 m L r.rc e n).1 }, (recv19 m L r.rc e n).2.2.2) := by
  have gr := grow_recv m e n r.rc g
  obtain ⟨k1, k2, k3, k4, k5⟩ := recv_spec g hr.rc hv hn hs.1 h0
  have hb : getB L c = true := (at_getT hs.inn.1 hs.inn.2).getT.2
  obtain ⟨s0, y, p, s1, s2, s3⟩ := hs.ext gr.1
  have := s1.fn gr.2.1 k1
  subst this
  unfold open19
  rw [if_pos ⟨hb, s0, hn, hn'⟩, if_pos h0, read5_of gr.2.1 s2 s3]
  rfl
/-- What is not sealed for this chain, epoch, number and hash is not opened. -/
theorem open_no {r : Se} {t' : ByteArray} {h' e' n' : Int} (g : Good L) (hC : Non L C) (hD : Non L D) (hr : SeOk r) (hv : Rv L C r.rc) (hs : Sl L D h' e' n' t' c) (hne : ¬ (D = C ∧ h' = r.h ∧ e' = e ∧ n' = n)) : (open19 m L r e n c).1.2 ≠ 0 := fun h0 => by
  have gr := grow_open m e n c r g
  obtain ⟨_, _, h1, _⟩ := open_spec (m := m) (e := e) (n := n) (c := c) g hr hv
  obtain ⟨h2, _⟩ := h1 h0
  obtain ⟨a1, a2, a3, a4, _⟩ := h2.inj (hC.ext gr.1) (hD.ext gr.1) (hs.ext gr.1)
  exact hne ⟨a1.symm, a2.symm, a3.symm, a4.symm⟩
/-- The error, where all else is well. -/
theorem open_bad {r : Se} {t' : ByteArray} {h' e' n' : Int} (g : Good L) (hC : Non L C) (hD : Non L D) (hh : getB L r.h = true) (hr : SeOk r) (hv : Rv L C r.rc) (hs : Sl L D h' e' n' t' c) (hne : ¬ (D = C ∧ h' = r.h ∧ e' = e ∧ n' = n)) (he : 0 ≤ e) (hn : 0 ≤ n) (hn' : n < 256) (h0 : (recv19 m L r.rc e n).2.2.1 = 0) :
    open19 m L r e n c = ((⟨#[]⟩, 9), r, (recv19 m L r.rc e n).2.2.2) := by
  have gr := grow_recv m e n r.rc g
  have hb : getB L c = true := (at_getT hs.inn.1 hs.inn.2).getT.2
  obtain ⟨k1, _⟩ := recv_spec g hr.rc hv hn he h0
  have up : ∀ {z : Int}, getB L z = true → getB (recv19 m L r.rc e n).2.2.2 z = true := fun hz => by
    obtain ⟨z1, z2⟩ := getB_range hz
    exact (at_getT z1 (by have := gr.1.len; omega)).getT.2
  have hno := read5_no (n := n) gr.2.1 (at_getT k1.inn.1 k1.inn.2).getT.2 (up hh) (up hb) (by
    rintro ⟨p, u, h1, h2⟩
    have hq : Sl (recv19 m L r.rc e n).2.2.2 C r.h e n u c := ⟨he, _, p, k1, h1, h2⟩
    obtain ⟨a1, a2, a3, a4, _⟩ := hq.inj (hC.ext gr.1) (hD.ext gr.1) (hs.ext gr.1)
    exact hne ⟨a1.symm, a2.symm, a3.symm, a4.symm⟩)
  unfold open19
  rw [if_pos ⟨hb, he, hn, hn'⟩, if_pos h0, hno]
  rfl
theorem open_err {r : Se} {er : Int} (hb : getB L c = true) (he : 0 ≤ e) (hn : 0 ≤ n) (hn' : n < 256) (h0 : (recv19 m L r.rc e n).2.2.1 = er) (her : er ≠ 0) :
    open19 m L r e n c = ((⟨#[]⟩, er), r, (recv19 m L r.rc e n).2.2.2) := by
  unfold open19
  rw [if_pos ⟨hb, he, hn, hn'⟩, if_neg (by rw [h0]; exact her), h0]

theorem now_live {r : Rc} (hC : Non L C) (hv : Rv L C r) (hw : wCan r.nx r.bt n = true) (hroom : (L.length : Int) + 1 ≤ m) :
    (now19 m L r n).2.2.1 = 0 ∧ (now19 m L r n).1 = ⟨r.ik, r.ie, (wTake r.nx r.bt n).1.1, (wTake r.nx r.bt n).1.2, r.es⟩ := by
  obtain ⟨hk1, hk2⟩ := hv.ch.inn hC
  obtain ⟨i, p1, _⟩ := put_ok15 (m := m) (L := L) (t := keyT r.ik 1) (may_key.2 ⟨hk1, hk2⟩) (by omega)
  unfold now19
  rw [if_pos (wTake_yes hw), p1]
  exact ⟨rfl, rfl⟩
theorem recv_now {r : Rc} (hC : Non L C) (hv : Rv L C r) (hw : wCan r.nx r.bt n = true) (hroom : (L.length : Int) + 1 ≤ m) :
    (recv19 m L r r.ie n).2.2.1 = 0 ∧ (recv19 m L r r.ie n).1 = ⟨r.ik, r.ie, (wTake r.nx r.bt n).1.1, (wTake r.nx r.bt n).1.2, r.es⟩ := by
  unfold recv19
  rw [if_pos rfl]
  exact now_live hC hv hw hroom
theorem recv_later {r : Rc} (g : Good L) (hC : Non L C) (_hr : RcOk r) (hv : Rv L C r) (hn : 0 ≤ n) (h1 : r.ie < e) (h2 : e ≤ r.ie + 4) (h3 : e ≤ 1000) (hroom : (L.length : Int) + 9 ≤ m) :
    ∃ k ks, ks.length = (e - r.ie).toNat ∧ (recv19 m L r e n).2.2.1 = 0 ∧ (recv19 m L r e n).1 = ⟨k, e, (wTake 0 0 n).1.1, (wTake 0 0 n).1.2, puts19 r.es r.ie r.nx r.bt ks⟩ := by
  obtain ⟨hk1, hk2⟩ := hv.ch.inn hC
  have hlo := hv.lo
  obtain ⟨ks, dk, L1, p1, p2, p3⟩ := steps15_ok m (e - r.ie).toNat L r.ik r.ie hk1 hk2 hlo (by omega) (by omega)
  have hto : to15 m L r.ik r.ie e = ((dk, e), ks, 0, L1) := by
    unfold to15
    rw [if_neg (by omega), if_neg (by omega), p1]
    dsimp only
    rw [if_pos rfl, show r.ie + ((e - r.ie).toNat : Int) = e by omega]
  have gt := grow_to m r.ik r.ie e g
  have ht := to_ch (x := e) (m := m) g hlo hv.ch (by rw [hto])
  rw [hto] at gt ht
  dsimp only at gt ht
  obtain ⟨i, q1, _⟩ := put_ok15 (m := m) (L := L1) (t := keyT dk 1) (may_key.2 (ht.1.inn (hC.ext gt.1))) (by omega)
  refine ⟨dk, ks, p2, ?_⟩
  unfold recv19
  rw [if_neg (by omega), if_pos h1]
  unfold later19
  rw [hto]
  dsimp only
  rw [if_pos rfl]
  unfold now19
  rw [if_pos (wTake_yes (by unfold wCan; simp [hn])), q1]
  exact ⟨rfl, rfl⟩
theorem recv_far {r : Rc} (h1 : r.ie + 4 < e) : recv19 m L r e n = (r, 0, 13, L) := by
  unfold recv19
  have hto : to15 m L r.ik r.ie e = ((0, 0), [], 13, L) := by
    unfold to15
    rw [if_neg (by omega), if_pos (by omega)]
  rw [if_neg (by omega), if_pos (by omega)]
  unfold later19
  rw [hto]
  rfl
theorem recv_ago {r : Rc} {z : En} (h1 : e < r.ie) (hg : kGet r.es e = (z, true)) (hw : wCan z.nx z.bt n = true) :
    (recv19 m L r e n).2.2.1 = 0 ∧ (recv19 m L r e n).1 = ⟨r.ik, r.ie, r.nx, r.bt, (kPut r.es ⟨z.ep, z.key, (wTake z.nx z.bt n).1.1, (wTake z.nx z.bt n).1.2⟩).1⟩ := by
  unfold recv19
  rw [if_neg (by omega), if_neg (by omega)]
  unfold ago19
  rw [hg]
  dsimp only
  rw [if_pos rfl, if_pos (wTake_yes hw)]
  exact ⟨rfl, rfl⟩
theorem recv_old {r : Rc} (hs : Shut r e n) : (recv19 m L r e n).2.2.1 = 12 := by
  unfold recv19
  split
  · rename_i h1
    unfold now19
    rw [if_neg (by rw [wTake_no (hs.2.1 h1)]; decide)]
    exact wTake_no (hs.2.1 h1)
  · rw [if_neg (by have := hs.1; omega)]
    unfold ago19
    split
    · rename_i hg
      obtain ⟨m1, m2⟩ := kGet_mem hg
      have := wTake_no (hs.2.2 _ m1 m2)
      rw [if_neg (by rw [this]; decide)]
      exact this
    · rfl

theorem find_mem {a : En} : ∀ {l : List En}, Rises l → a ∈ l → l.find? (fun z => decide (z.ep = a.ep)) = some a
  | b :: l, hr, hx => by
    rw [List.find?_cons]
    rcases List.mem_cons.1 hx with rfl | hx
    · simp
    · have := hr.head a hx
      rw [show decide (b.ep = a.ep) = false by simp; omega]
      exact find_mem hr.tail hx
theorem kGet_put {es : List En} {a : En} (hr : Rises es) (h4 : es.length ≤ 4) (hl : ∀ z ∈ es, z.ep < a.ep) : kGet (kPut es a).1 a.ep = (a, true) := by
  have hm : a ∈ (kPut es a).1 := by
    rw [kPut_eq hr h4]
    have hb : below es a.ep = es := List.filter_eq_self.2 fun z hz => by simpa using hl z hz
    have ha : above es a.ep = [] := List.filter_eq_nil_iff.2 fun z hz => by have := hl z hz; simp; omega
    unfold rPut ins
    rw [hb, ha]
    split
    · simp
    · rename_i hlen
      simp at hlen
      dsimp only
      rw [List.drop_append_of_le_length (by omega)]
      simp
  have hr2 := kPut_rises hr h4 a
  rw [kGet_eq hr2]
  unfold rGet
  rw [find_mem hr2 hm]

/-- The next one, in this epoch or the next one. -/
def Foll (a b : Int × Int) : Prop := (b.1 = a.1 ∧ b.2 = a.2 + 1) ∨ (b.1 = a.1 + 1 ∧ b.2 = 0)
/-- Opened up to here. -/
def RAt (r : Rc) (a : Int × Int) : Prop := r.ie = a.1 ∧ r.nx = a.2 + 1
/-- The next but one was opened, the next one not yet. -/
def Mid (r : Rc) (a b : Int × Int) : Prop := RAt r b ∧ (a.1 = b.1 → a.2 < b.2 ∧ wCan r.nx r.bt a.2 = true) ∧ (a.1 ≠ b.1 → a.1 < b.1 ∧ ∃ z, kGet r.es a.1 = (z, true) ∧ wCan z.nx z.bt a.2 = true)

theorem wTake_new (hn : 0 ≤ n) : (wTake 0 0 n).1.1 = n + 1 := by
  unfold wTake wCan
  rw [if_pos (by simp [hn]), if_neg (by omega)]
theorem wTake_next (h : x ≤ n) : (wTake x y n).1.1 = n + 1 := by
  unfold wTake wCan
  rw [if_pos (by simp [h]), if_neg (by omega)]
theorem wCan_next (h : x ≤ n) : wCan x y n = true := by unfold wCan; simp [h]

theorem live_step {r : Rc} {a b : Int × Int} (g : Good L) (hC : Non L C) (hr : RcOk r) (hv : Rv L C r) (h : RAt r a) (hf : Foll a b) (hb : 0 ≤ b.2) (hb1 : b.1 ≤ 1000) (hroom : (L.length : Int) + 9 ≤ m) :
    (recv19 m L r b.1 b.2).2.2.1 = 0 ∧ RAt (recv19 m L r b.1 b.2).1 b := by
  obtain ⟨h1, h2⟩ := h
  rcases hf with ⟨f1, f2⟩ | ⟨f1, f2⟩
  · rw [f1, ← h1]
    obtain ⟨k1, k2⟩ := recv_now (m := m) (n := b.2) hC hv (wCan_next (by omega)) (by omega)
    exact ⟨k1, by rw [k2]; exact ⟨by rw [f1]; exact h1, wTake_next (by omega)⟩⟩
  · obtain ⟨k, ks, k1, k2, k3⟩ := recv_later (m := m) (e := b.1) (n := b.2) g hC hr hv hb (by omega) (by omega) hb1 hroom
    exact ⟨k2, by rw [k3]; exact ⟨rfl, wTake_new hb⟩⟩

theorem mid_step {r : Rc} {o a b : Int × Int} (g : Good L) (hC : Non L C) (hr : RcOk r) (hv : Rv L C r) (h : RAt r o) (hf : Foll o a) (hf2 : Foll a b) (ha : 0 ≤ a.2) (hb1 : b.1 ≤ 1000) (hroom : (L.length : Int) + 9 ≤ m) :
    (recv19 m L r b.1 b.2).2.2.1 = 0 ∧ Mid (recv19 m L r b.1 b.2).1 a b := by
  obtain ⟨h1, h2⟩ := h
  have same : b.1 = a.1 → r.ie = b.1 → r.nx ≤ a.2 → b.2 = a.2 + 1 → (recv19 m L r b.1 b.2).2.2.1 = 0 ∧ Mid (recv19 m L r b.1 b.2).1 a b := fun e1 e2 e3 e4 => by
    rw [← e2]
    obtain ⟨k1, k2⟩ := recv_now (m := m) (n := b.2) hC hv (wCan_next (by omega)) (by omega)
    refine ⟨k1, ?_⟩
    rw [k2]
    have hx0 := hr.w.x0
    refine ⟨⟨e2, wTake_next (by omega)⟩, fun _ => ⟨by omega, ?_⟩, fun hne => absurd e1.symm hne⟩
    dsimp only
    unfold wTake
    rw [if_pos (wCan_next (by omega)), if_neg (by omega)]
    unfold wCan
    dsimp only
    rw [Int.toNat_natCast, Nat.testBit_or, Nat.testBit_mod_two_pow, show (b.2 + 1 - 1 - a.2).toNat = 1 by omega]
    rw [show (b.2 + 1 - r.nx).toNat = ((b.2 - 1 - r.nx).toNat + 1) + 1 by omega, Nat.testBit_mul_two_pow]
    have : (1 : Nat).testBit 1 = false := by decide
    simp [this]
    omega
  rcases hf2 with ⟨f3, f4⟩ | ⟨f3, f4⟩
  · rcases hf with ⟨f1, f2⟩ | ⟨f1, f2⟩
    · exact same f3 (by omega) (by omega) f4
    · obtain ⟨k, ks, k1, k2, k3⟩ := recv_later (m := m) (e := b.1) (n := b.2) g hC hr hv (by omega) (by omega) (by omega) hb1 hroom
      refine ⟨k2, ?_⟩
      rw [k3]
      refine ⟨⟨rfl, wTake_new (by omega)⟩, fun _ => ⟨by omega, ?_⟩, fun hne => absurd f3.symm hne⟩
      dsimp only
      rw [f4, f2]
      decide
  · have hgo : (r.ie = a.1 ∧ r.nx ≤ a.2) ∨ (r.ie + 1 = a.1 ∧ a.2 = 0) := by
      rcases hf with ⟨f1, f2⟩ | ⟨f1, f2⟩
      · exact .inl ⟨by omega, by omega⟩
      · exact .inr ⟨by omega, by omega⟩
    obtain ⟨k, ks, k1, k2, k3⟩ := recv_later (m := m) (e := b.1) (n := b.2) g hC hr hv (by omega) (by omega) (by omega) hb1 hroom
    refine ⟨k2, ?_⟩
    rw [k3]
    refine ⟨⟨rfl, wTake_new (by omega)⟩, fun he => absurd he (by omega), fun _ => ⟨by omega, ?_⟩⟩
    dsimp only
    have hes : ∀ z ∈ r.es, z.ep < r.ie := fun z hz => (hv.es z hz).2.1
    rcases hgo with ⟨o1, o2⟩ | ⟨o1, o2⟩
    · rw [show (b.1 - r.ie).toNat = 1 by omega] at k1
      match ks, k1 with
      | [k1], _ =>
        refine ⟨⟨r.ie, k1, r.nx, r.bt⟩, ?_, wCan_next o2⟩
        rw [← o1]
        exact kGet_put (a := ⟨r.ie, k1, r.nx, r.bt⟩) hr.rises hr.len hes
    · rw [show (b.1 - r.ie).toNat = 2 by omega] at k1
      match ks, k1 with
      | [k1, k2], _ =>
        refine ⟨⟨r.ie + 1, k2, 0, 0⟩, ?_, wCan_next (by simp; omega)⟩
        rw [← o1]
        refine kGet_put (a := ⟨r.ie + 1, k2, 0, 0⟩) (kPut_rises hr.rises hr.len _) (kPut_length hr.rises hr.len _) fun z hz => ?_
        rcases mem_kPut hr.rises hr.len hz with rfl | hz
        · dsimp only; omega
        · have := hes z hz
          dsimp only; omega
theorem mid_done {r : Rc} {a b : Int × Int} (hC : Non L C) (hv : Rv L C r) (h : Mid r a b) (hroom : (L.length : Int) + 9 ≤ m) :
    (recv19 m L r a.1 a.2).2.2.1 = 0 ∧ RAt (recv19 m L r a.1 a.2).1 b := by
  obtain ⟨⟨h1, h2⟩, h3, h4⟩ := h
  by_cases he : a.1 = b.1
  · obtain ⟨h5, h6⟩ := h3 he
    rw [show a.1 = r.ie by omega]
    obtain ⟨k1, k2⟩ := recv_now (m := m) (n := a.2) hC hv h6 (by omega)
    refine ⟨k1, ?_⟩
    rw [k2]
    refine ⟨h1, ?_⟩
    dsimp only
    unfold wTake
    rw [if_pos h6, if_pos (by omega)]
    exact h2
  · obtain ⟨h5, z, h6, h7⟩ := h4 he
    obtain ⟨k1, k2⟩ := recv_ago (m := m) (L := L) (e := a.1) (n := a.2) (by omega) h6 h7
    exact ⟨k1, by rw [k2]; exact ⟨h1, h2⟩⟩

theorem recv_no_now {r : Rc} (hw : wCan r.nx r.bt n = false) : (recv19 m L r r.ie n).2.2.1 = 12 := by
  unfold recv19
  rw [if_pos rfl]
  unfold now19
  rw [if_neg (by rw [wTake_no hw]; decide)]
  exact wTake_no hw
theorem recv_no_ago {r : Rc} {z : En} (h1 : e < r.ie) (hg : kGet r.es e = (z, true)) (hw : wCan z.nx z.bt n = false) : (recv19 m L r e n).2.2.1 = 12 := by
  unfold recv19
  rw [if_neg (by omega), if_neg (by omega)]
  unfold ago19
  rw [hg]
  dsimp only
  rw [if_pos rfl, if_neg (by rw [wTake_no hw]; decide)]
  exact wTake_no hw
theorem wTake_zero (hn : 0 ≤ n) : wTake 0 0 n = ((n + 1, 1), 0) := by
  unfold wTake wCan
  rw [if_pos (by simp [hn]), if_neg (by omega)]
  simp
/-- The text of the number k was opened, in epoch 0, behind which there may be a next one. -/
def LateSt (r : Rc) (k : Nat) : Prop :=
  Shut r 0 k ∧ ((r.ie = 0 ∧ wCan r.nx r.bt 0 = decide (k ≤ 63)) ∨ (0 < r.ie ∧ ∃ z, kGet r.es 0 = (z, true) ∧ wCan z.nx z.bt 0 = decide (k ≤ 63)))
theorem late_can {k : Nat} (hk : 1 ≤ k) : wCan ((k : Int) + 1) 1 0 = decide (k ≤ 63) := by
  unfold wCan
  rw [show ((k : Int) + 1 - 1 - 0).toNat = k by omega, show (1 : Int).toNat = 1 from rfl, Nat.testBit_lt_two_pow (Nat.one_lt_two_pow (by omega))]
  by_cases h : k ≤ 63
  · simp [h]; omega
  · simp [h]; omega
theorem late_first {r : Rc} {k : Nat} (g : Good L) (hC : Non L C) (hr : RcOk r) (hv : Rv L C r) (h : r = ⟨r.ik, 0, 0, 0, []⟩) (hk : 1 ≤ k) (hroom : (L.length : Int) + 9 ≤ m) :
    (recv19 m L r 0 k).2.2.1 = 0 ∧ LateSt (recv19 m L r 0 k).1 k ∧ (recv19 m L r 0 k).1 = ⟨r.ik, 0, (k : Int) + 1, 1, []⟩ := by
  have hie : r.ie = 0 := by rw [h]
  obtain ⟨k1, k2⟩ := recv_now (m := m) (n := (k : Int)) hC hv (wCan_next (by rw [h]; simp)) (by omega)
  obtain ⟨_, _, _, k3, _⟩ := recv_spec (n := (k : Int)) (m := m) (e := r.ie) g hr hv (by omega) (by omega) k1
  rw [hie] at k1 k2 k3
  have k4 : (recv19 m L r 0 k).1 = ⟨r.ik, 0, (k : Int) + 1, 1, []⟩ := by
    rw [k2, h]
    dsimp only
    rw [wTake_zero (by omega)]
  exact ⟨k1, ⟨k3, .inl ⟨by rw [k4], by rw [k4]; exact late_can hk⟩⟩, k4⟩
theorem late_step {r : Rc} {k : Nat} (g : Good L) (hC : Non L C) (hr : RcOk r) (hv : Rv L C r) (h : r = ⟨r.ik, 0, (k : Int) + 1, 1, []⟩) (hs : Shut r 0 k) (hk : 1 ≤ k) (hroom : (L.length : Int) + 9 ≤ m) :
    (recv19 m L r 1 0).2.2.1 = 0 ∧ LateSt (recv19 m L r 1 0).1 k := by
  have hie : r.ie = 0 := by rw [h]
  obtain ⟨q, ks, k1, k2, k3⟩ := recv_later (m := m) (e := 1) (n := 0) g hC hr hv (by omega) (by omega) (by omega) (by decide) hroom
  obtain ⟨_, _, _, _, k4⟩ := recv_spec (n := 0) (m := m) (e := 1) g hr hv (by omega) (by omega) k2
  refine ⟨k2, k4 0 k (by omega) hs, .inr ?_⟩
  rw [k3]
  refine ⟨Int.zero_lt_one, ?_⟩
  dsimp only
  rw [show (1 - r.ie).toNat = 1 by omega] at k1
  match ks, k1 with
  | [k1], _ =>
    refine ⟨⟨r.ie, k1, r.nx, r.bt⟩, ?_, by rw [h]; exact late_can hk⟩
    have := kGet_put (a := ⟨r.ie, k1, r.nx, r.bt⟩) hr.rises hr.len (fun z hz => (hv.es z hz).2.1)
    dsimp only at this
    rw [hie] at this ⊢
    exact this
theorem late_open {r : Rc} {k : Nat} (g : Good L) (hC : Non L C) (hr : RcOk r) (hv : Rv L C r) (h : LateSt r k) (hk : k ≤ 63) (hroom : (L.length : Int) + 9 ≤ m) :
    (recv19 m L r 0 0).2.2.1 = 0 ∧ Shut (recv19 m L r 0 0).1 0 k := by
  obtain ⟨h1, h2⟩ := h
  have h0 : (recv19 m L r 0 0).2.2.1 = 0 := by
    rw [decide_eq_true hk] at h2
    rcases h2 with ⟨h2, h3⟩ | ⟨h2, z, h3, h4⟩
    · have := (recv_now (m := m) (n := 0) hC hv h3 (by omega)).1
      rw [h2] at this
      exact this
    · exact (recv_ago h2 h3 h4).1
  obtain ⟨_, _, _, _, k4⟩ := recv_spec (n := 0) (m := m) (e := 0) g hr hv (by omega) (by omega) h0
  exact ⟨h0, k4 0 k (by omega) h1⟩
theorem late_old {r : Rc} {k : Nat} (h : LateSt r k) (hk : 63 < k) : (recv19 m L r 0 0).2.2.1 = 12 := by
  obtain ⟨h1, h2⟩ := h
  rw [decide_eq_false (by omega)] at h2
  rcases h2 with ⟨h2, h3⟩ | ⟨h2, z, h3, h4⟩
  · have := recv_no_now (m := m) (L := L) h3
    rw [h2] at this
    exact this
  · exact recv_no_ago h2 h3 h4
end
end Go.Proofs.Ytpcfmafokkffgaa
namespace Go.Proofs.Ytpcfmafokkffgaa
open Go.RowKit

section
variable {W w : World} {Rs : List Res} {b : Nat} {L L2 : List T} {m r2 : Int}
set_option maxRecDepth 100000 in
set_option maxHeartbeats 4000000 in
theorem snext_calls (k e s : Int) {dk de : Int} (hq : next15 m L k e = ((dk, de), r2, L2)) (h : Hd W w (Sto b L m :: Rs)) :
    Calls Try.prog 63 #[.agg #[.int .i64 k, .int .i64 e, .int .i64 s], .pointer (some ⟨b, 0, none⟩)] w fun e' w' => e' = .returned (.tuple #[.agg #[.int .i64 dk, .int .i64 de, .int .i64 0], .int .i64 r2]) ∧ Hd W w' (Sto b L2 m :: Rs) := by
  have HQ := hid hq
  have H := hid (((h.boxk (o := .cells #[.int .i64 k, .int .i64 e, .int .i64 s] 140 (0, 0)) w.heap.size rfl).boxk (o := .cells #[.int .i64 0, .int .i64 0, .int .i64 0] 140 (0, 0)) (w.heap.size + 1) (by simp)).front 2 rfl)
  obtain ⟨wo, hwo⟩ : ∃ wo, (w.alloc (.cells #[.int .i64 k, .int .i64 e, .int .i64 s] 140 (0, 0))).alloc (.cells #[.int .i64 0, .int .i64 0, .int .i64 0] 140 (0, 0)) = wo := ⟨_, rfl⟩
  rw [hwo] at H
  clear h hq
  have hk := Hd.nthk 2 H.out rfl
  have c0 := (cell_of_heap hk 0).trans (show _ = some (.int .i64 k) from rfl)
  have c1 := (cell_of_heap hk 1).trans (show _ = some (.int .i64 e) from rfl)
  have c2 := (cell_of_heap hk 2).trans (show _ = some (.int .i64 s) from rfl)
  have cs := (Array.getElem?_eq_some_iff.1 hk).1
  clear hk
  go_enter Try.func63, Try.ntmps63
  go_wp2_with fail
  refine (next15_calls k e HQ.out H.out).mono ?_
  rintro e2 w1 ⟨rfl, h1⟩
  clear H c0 c1 c2 cs hwo HQ
  have H := hid h1
  clear h1
  have hk := Hd.nthk 1 H.out rfl
  have q0 := (cell_of_heap hk 0).trans (show _ = some (.int .i64 0) from rfl)
  have q1 := (cell_of_heap hk 1).trans (show _ = some (.int .i64 0) from rfl)
  have q2 := (cell_of_heap hk 2).trans (show _ = some (.int .i64 0) from rfl)
  have qs := (Array.getElem?_eq_some_iff.1 hk).1
  have qf := frozen_of_heap hk
  clear hk
  go_wp2_with fail
  refine bodyPost_ret (v := .tuple #[.agg #[.int .i64 dk, .int .i64 de, .int .i64 0], .int .i64 r2]) (by simp [results, Try.results63, go_sem, q0, q1, q2, qs]) rfl ⟨rfl, ?_⟩
  first
    | exact (((((((H.out.front 2 rfl).front 1 rfl).front 2 rfl).set 0 (.int .i64 dk)).set 1 (.int .i64 de)).set 2 (.int .i64 0)).drop.un2).al
    | exact ((((((H.out.al.front 2 rfl).front 1 rfl).front 2 rfl).set 0 (.int .i64 dk)).set 1 (.int .i64 de)).set 2 (.int .i64 0)).drop.un2

set_option maxRecDepth 100000 in
set_option maxHeartbeats 4000000 in
theorem now19_calls {y y' : Rc} {n key er : Int} {ad : Option Addr} {len cap : Nat} (hy : WIn y.nx y.bt) (h0n : 0 ≤ n) (h1n : n ≤ 255) (hq : now19 m L y n = (y', key, er, L2)) (h : Hd W w (Sto b L m :: Rs)) :
    Calls Try.prog 66 #[.agg #[.int .i64 y.ik, .int .i64 y.ie, .int .u64 y.nx, .int .u64 y.bt, .slice ad len cap], .pointer (some ⟨b, 0, none⟩), .int .i64 n] w fun e' w' => e' = .returned (.tuple #[.agg #[.int .i64 y'.ik, .int .i64 y'.ie, .int .u64 y'.nx, .int .u64 y'.bt, .slice ad len cap], .int .i64 key, .int .i64 er]) ∧ Hd W w' (Sto b L2 m :: Rs) := by
  obtain ⟨ik, ie, nx, bt, es⟩ := y
  dsimp only at hy hq ⊢
  unfold now19 at hq
  dsimp only at hq
  obtain ⟨⟨⟨t1, t2⟩, t3⟩, ht⟩ : ∃ t, wTake nx bt n = t := ⟨_, rfl⟩
  rw [ht] at hq
  dsimp only at hq
  have HT := hid ht
  have HY := hid hy
  have z1 : IntKind.u64.wrap n = n := IntWalk.u64_in _ (by omega)
  have H := hid (((h.boxk (o := .cells #[.int .i64 ik, .int .i64 ie, .int .u64 nx, .int .u64 bt, .slice ad len cap] 146 (0, 0)) w.heap.size rfl).boxk (o := .cells #[.int .i64 0, .int .i64 0, .int .u64 0, .int .u64 0, .slice none 0 0] 146 (0, 0)) (w.heap.size + 1) (by simp)).front 2 rfl)
  obtain ⟨wo, hwo⟩ : ∃ wo, (w.alloc (.cells #[.int .i64 ik, .int .i64 ie, .int .u64 nx, .int .u64 bt, .slice ad len cap] 146 (0, 0))).alloc (.cells #[.int .i64 0, .int .i64 0, .int .u64 0, .int .u64 0, .slice none 0 0] 146 (0, 0)) = wo := ⟨_, rfl⟩
  rw [hwo] at H
  clear h ht hy
  by_cases h3 : t3 = 0
  · subst h3
    rw [if_pos rfl] at hq
    obtain ⟨p1, p2, L3, hp⟩ : ∃ p1 p2 L3, put m L (keyT ik 1) = (p1, p2, L3) := ⟨_, _, _, rfl⟩
    rw [hp] at hq
    simp only [Prod.mk.injEq] at hq
    obtain ⟨rfl, rfl, rfl, rfl⟩ := hq
    have HP := hid hp
    clear hp
    have hk := Hd.nthk 2 H.out rfl
    have c0 := (cell_of_heap hk 0).trans (show _ = some (.int .i64 ik) from rfl)
    have c1 := (cell_of_heap hk 1).trans (show _ = some (.int .i64 ie) from rfl)
    have c2 := (cell_of_heap hk 2).trans (show _ = some (.int .u64 nx) from rfl)
    have c3 := (cell_of_heap hk 3).trans (show _ = some (.int .u64 bt) from rfl)
    have c4 := (cell_of_heap hk 4).trans (show _ = some (.slice ad len cap) from rfl)
    have cs := (Array.getElem?_eq_some_iff.1 hk).1
    clear hk
    go_enter Try.func66, Try.ntmps66
    go_wp2_with fail
    refine (take14_calls HY.out h0n h1n HT.out _).mono ?_
    rintro e2 w1 ⟨rfl, h1⟩
    replace H := hid (H.out.still h1)
    clear c0 c1 c2 c3 c4 cs hwo h1 HT HY z1
    have hk := Hd.nthk 2 H.out rfl
    have c0 := (cell_of_heap hk 0).trans (show _ = some (.int .i64 ik) from rfl)
    have c1 := (cell_of_heap hk 1).trans (show _ = some (.int .i64 ie) from rfl)
    have c2 := (cell_of_heap hk 2).trans (show _ = some (.int .u64 nx) from rfl)
    have c3 := (cell_of_heap hk 3).trans (show _ = some (.int .u64 bt) from rfl)
    have c4 := (cell_of_heap hk 4).trans (show _ = some (.slice ad len cap) from rfl)
    have cs := (Array.getElem?_eq_some_iff.1 hk).1
    have cf := frozen_of_heap hk
    clear hk
    have hk := Hd.nthk 1 H.out rfl
    have q0 := (cell_of_heap hk 0).trans (show _ = some (.int .i64 0) from rfl)
    have q1 := (cell_of_heap hk 1).trans (show _ = some (.int .i64 0) from rfl)
    have q2 := (cell_of_heap hk 2).trans (show _ = some (.int .u64 0) from rfl)
    have q3 := (cell_of_heap hk 3).trans (show _ = some (.int .u64 0) from rfl)
    have q4 := (cell_of_heap hk 4).trans (show _ = some (.slice none 0 0) from rfl)
    have qs := (Array.getElem?_eq_some_iff.1 hk).1
    have qf := frozen_of_heap hk
    clear hk
    have hne := blks_ne H.out.drop
    have hne2 : ¬ w.heap.size = w.heap.size + 1 := by omega
    go_wp2_with fail
    have HB := hid (((((H.out.front 1 rfl).front 1 rfl).front 2 rfl).set 2 (.int .u64 t1)).set 3 (.int .u64 t2))
    clear H c0 c1 c2 c3 c4 cs cf q0 q1 q2 q3 q4 qs qf
    have H := hid (Hd.al (o := .cells #[.int .u64 t1, .int .u64 t2] 141 (0, 0)) (((HB.out.front 2 rfl).front 2 rfl)))
    clear HB
    refine (seal15_calls ik ie HP.out H.out).mono ?_
    rintro e2 w2 ⟨rfl, h1⟩
    clear H HP
    have H := hid h1
    clear h1
    have hk := Hd.nthk 2 H.out rfl
    have c0 := (cell_of_heap hk 0).trans (show _ = some (.int .i64 ik) from rfl)
    have c1 := (cell_of_heap hk 1).trans (show _ = some (.int .i64 ie) from rfl)
    have c2 := (cell_of_heap hk 2).trans (show _ = some (.int .u64 t1) from rfl)
    have c3 := (cell_of_heap hk 3).trans (show _ = some (.int .u64 t2) from rfl)
    have c4 := (cell_of_heap hk 4).trans (show _ = some (.slice ad len cap) from rfl)
    have cs := (Array.getElem?_eq_some_iff.1 hk).1
    have cf := frozen_of_heap hk
    clear hk
    have hk := Hd.nthk 1 H.out rfl
    have q0 := (cell_of_heap hk 0).trans (show _ = some (.int .i64 0) from rfl)
    have q1 := (cell_of_heap hk 1).trans (show _ = some (.int .i64 0) from rfl)
    have q2 := (cell_of_heap hk 2).trans (show _ = some (.int .u64 0) from rfl)
    have q3 := (cell_of_heap hk 3).trans (show _ = some (.int .u64 0) from rfl)
    have q4 := (cell_of_heap hk 4).trans (show _ = some (.slice none 0 0) from rfl)
    have qs := (Array.getElem?_eq_some_iff.1 hk).1
    have qf := frozen_of_heap hk
    clear hk
    go_wp2_with fail
    refine bodyPost_ret (v := .tuple #[.agg #[.int .i64 ik, .int .i64 ie, .int .u64 t1, .int .u64 t2, .slice ad len cap], .int .i64 p1, .int .i64 p2]) (by simp [results, Try.results66, go_sem, q0, q1, q2, q3, q4]) rfl ⟨rfl, ?_⟩
    exact (((((((((H.out.front 2 rfl).front 1 rfl).front 2 rfl).set 0 (.int .i64 ik)).set 1 (.int .i64 ie)).set 2 (.int .u64 t1)).set 3 (.int .u64 t2)).set 4 (.slice ad len cap))).drop.un2
  · rw [if_neg h3] at hq
    simp only [Prod.mk.injEq] at hq
    obtain ⟨rfl, rfl, rfl, rfl⟩ := hq
    have g1 : (t3 != 0) = true := by rw [bne_iff_ne]; exact h3
    have g2 : decide (t3 = 0) = false := by simpa using h3
    clear h3
    have hk := Hd.nthk 2 H.out rfl
    have c0 := (cell_of_heap hk 0).trans (show _ = some (.int .i64 ik) from rfl)
    have c1 := (cell_of_heap hk 1).trans (show _ = some (.int .i64 ie) from rfl)
    have c2 := (cell_of_heap hk 2).trans (show _ = some (.int .u64 nx) from rfl)
    have c3 := (cell_of_heap hk 3).trans (show _ = some (.int .u64 bt) from rfl)
    have c4 := (cell_of_heap hk 4).trans (show _ = some (.slice ad len cap) from rfl)
    have cs := (Array.getElem?_eq_some_iff.1 hk).1
    clear hk
    go_enter Try.func66, Try.ntmps66
    go_wp2_with fail
    refine (take14_calls HY.out h0n h1n HT.out _).mono ?_
    rintro e2 w1 ⟨rfl, h1⟩
    replace H := hid (H.out.still h1)
    clear c0 c1 c2 c3 c4 cs hwo h1 HT HY z1
    have hk := Hd.nthk 2 H.out rfl
    have c0 := (cell_of_heap hk 0).trans (show _ = some (.int .i64 ik) from rfl)
    have c1 := (cell_of_heap hk 1).trans (show _ = some (.int .i64 ie) from rfl)
    have c2 := (cell_of_heap hk 2).trans (show _ = some (.int .u64 nx) from rfl)
    have c3 := (cell_of_heap hk 3).trans (show _ = some (.int .u64 bt) from rfl)
    have c4 := (cell_of_heap hk 4).trans (show _ = some (.slice ad len cap) from rfl)
    have cs := (Array.getElem?_eq_some_iff.1 hk).1
    have cf := frozen_of_heap hk
    clear hk
    have hk := Hd.nthk 1 H.out rfl
    have q0 := (cell_of_heap hk 0).trans (show _ = some (.int .i64 0) from rfl)
    have q1 := (cell_of_heap hk 1).trans (show _ = some (.int .i64 0) from rfl)
    have q2 := (cell_of_heap hk 2).trans (show _ = some (.int .u64 0) from rfl)
    have q3 := (cell_of_heap hk 3).trans (show _ = some (.int .u64 0) from rfl)
    have q4 := (cell_of_heap hk 4).trans (show _ = some (.slice none 0 0) from rfl)
    have qs := (Array.getElem?_eq_some_iff.1 hk).1
    have qf := frozen_of_heap hk
    clear hk
    go_wp2_with fail
    refine bodyPost_ret (v := .tuple #[.agg #[.int .i64 ik, .int .i64 ie, .int .u64 nx, .int .u64 bt, .slice ad len cap], .int .i64 0, .int .i64 t3]) (by simp [results, Try.results66, go_sem, q0, q1, q2, q3, q4, qs]) rfl ⟨rfl, ?_⟩
    first
      | exact (((((((((H.out.front 2 rfl).front 1 rfl).front 2 rfl).set 0 (.int .i64 ik)).set 1 (.int .i64 ie)).set 2 (.int .u64 nx)).set 3 (.int .u64 bt)).set 4 (.slice ad len cap))).drop.un2.al
      | exact (((((((((H.out.al.front 2 rfl).front 1 rfl).front 2 rfl).set 0 (.int .i64 ik)).set 1 (.int .i64 ie)).set 2 (.int .u64 nx)).set 3 (.int .u64 bt)).set 4 (.slice ad len cap))).drop.un2
end
end Go.Proofs.Ytpcfmafokkffgaa
