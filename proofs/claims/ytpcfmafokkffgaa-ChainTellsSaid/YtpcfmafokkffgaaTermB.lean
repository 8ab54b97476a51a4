/-
  Walks through (term.Term).only: a term with what its kind has alone. For every term and every memory.
-/
import Derived.Test.YtpcfmafokkffgaaTermA
import Derived.Handy
namespace Go.Proofs.Ytpcfmafokkffgaa
open Go.RowKit

def T.val (t : T) : Value := .agg #[.int .i64 t.k, .string t.s, .int .u64 t.n, .int .i64 t.a, .int .i64 t.b, .int .i64 t.c]
theorem parts_calls0 (k : Int) (s : ByteArray) (n a b c : Int) (w : World) (hm : many k = 0) :
    Calls Try.prog 58 #[.agg #[.int .i64 k, .string s, .int .u64 n, .int .i64 a, .int .i64 b, .int .i64 c]] w fun e w' =>
      ∃ ad, e = .returned (.slice ad 0 0) ∧ Below w.heap.size w w' := by
  refine (parts_calls k s n a b c w).mono ?_
  rintro e w' ⟨ad, rfl, hb, _⟩
  exact ⟨ad, by rw [hm], hb⟩
theorem parts_calls1 (k : Int) (s : ByteArray) (n a b c : Int) (w : World) (hm : many k = 1) :
    Calls Try.prog 58 #[.agg #[.int .i64 k, .string s, .int .u64 n, .int .i64 a, .int .i64 b, .int .i64 c]] w fun e w' =>
      ∃ g, e = .returned (.slice (some ⟨g, 0, none⟩) 1 1) ∧ Below w.heap.size w w' ∧ w'.cell? ⟨g, 0, none⟩ = some (.int .i64 a) ∧ w.heap.size ≤ g := by
  refine (parts_calls k s n a b c w).mono ?_
  rintro e w' ⟨ad, rfl, hb, hl⟩
  simp only [T.parts, hm, List.take, ints, List.map] at *
  rcases hl with ⟨h, _⟩ | ⟨g, rfl, hg, h⟩
  · simp at h
  · exact ⟨g, rfl, hb, by rw [cell_of_heap h]; rfl, hg⟩
theorem parts_calls2 (k : Int) (s : ByteArray) (n a b c : Int) (w : World) (hm : many k = 2) :
    Calls Try.prog 58 #[.agg #[.int .i64 k, .string s, .int .u64 n, .int .i64 a, .int .i64 b, .int .i64 c]] w fun e w' =>
      ∃ g, e = .returned (.slice (some ⟨g, 0, none⟩) 2 2) ∧ Below w.heap.size w w' ∧ w'.cell? ⟨g, 0, none⟩ = some (.int .i64 a) ∧ w'.cell? ⟨g, 1, none⟩ = some (.int .i64 b) ∧ w.heap.size ≤ g := by
  refine (parts_calls k s n a b c w).mono ?_
  rintro e w' ⟨ad, rfl, hb, hl⟩
  simp only [T.parts, hm, List.take, ints, List.map] at *
  rcases hl with ⟨h, _⟩ | ⟨g, rfl, hg, h⟩
  · simp at h
  · exact ⟨g, rfl, hb, by rw [cell_of_heap h]; rfl, by rw [cell_of_heap h]; rfl, hg⟩
theorem parts_calls3 (k : Int) (s : ByteArray) (n a b c : Int) (w : World) (hm : many k = 3) :
    Calls Try.prog 58 #[.agg #[.int .i64 k, .string s, .int .u64 n, .int .i64 a, .int .i64 b, .int .i64 c]] w fun e w' =>
      ∃ g, e = .returned (.slice (some ⟨g, 0, none⟩) 3 3) ∧ Below w.heap.size w w' ∧ w'.cell? ⟨g, 0, none⟩ = some (.int .i64 a) ∧ w'.cell? ⟨g, 1, none⟩ = some (.int .i64 b) ∧ w'.cell? ⟨g, 2, none⟩ = some (.int .i64 c) ∧ w.heap.size ≤ g := by
  refine (parts_calls k s n a b c w).mono ?_
  rintro e w' ⟨ad, rfl, hb, hl⟩
  simp only [T.parts, hm, List.take, ints, List.map] at *
  rcases hl with ⟨h, _⟩ | ⟨g, rfl, hg, h⟩
  · simp at h
  · exact ⟨g, rfl, hb, by rw [cell_of_heap h]; rfl, by rw [cell_of_heap h]; rfl, by rw [cell_of_heap h]; rfl, hg⟩
set_option maxHeartbeats 1000000 in
theorem only_1 (s : ByteArray) (n a b c : Int) (w : World)   :
    Calls Try.prog 80 #[.agg #[.int .i64 1, .string s, .int .u64 n, .int .i64 a, .int .i64 b, .int .i64 c]] w fun e w' =>
      e = .returned (T.val ⟨1, s, 0, 0, 0, 0⟩) ∧ Below w.heap.size w w' := by
  have Hm : Hid (many 1 = 0) := hid rfl
  go_enter Try.func80, Try.ntmps80
  go_wp2_with fail
  refine (parts_calls0 _ _ _ _ _ _ _ Hm.out).mono ?_
  rintro e w1 ⟨ad, rfl, hb⟩
  obtain ⟨hc, hf⟩ := bcell hb
  have hz := hb.size
  simp at hz hc hf
  go_wp2_with fail
  refine wp_loop_rounds 1 ?_
  rw [rounds_succ]; go_wp2
  refine bodyPost_ret (v := T.val ⟨1, s, 0, 0, 0, 0⟩) (by simp [results, Try.results80, go_sem, T.val, hc]) rfl ⟨rfl, ?_⟩
  have hb0 : Below w.heap.size w w1 := (((((Below.refl _ _).alloc (Nat.le_refl _) _).alloc (by simp) _).alloc (by simp; omega) _).trans (hb.mono (by simp; omega)))
  clear hc hf
  repeat (first | with_reducible exact hb0 | refine Below.setCell ?_ (by dsimp only; omega) _)

set_option maxHeartbeats 1000000 in
theorem only_2 (s : ByteArray) (n a b c : Int) (w : World)   :
    Calls Try.prog 80 #[.agg #[.int .i64 2, .string s, .int .u64 n, .int .i64 a, .int .i64 b, .int .i64 c]] w fun e w' =>
      e = .returned (T.val ⟨2, ⟨#[]⟩, n, 0, 0, 0⟩) ∧ Below w.heap.size w w' := by
  have Hm : Hid (many 2 = 0) := hid rfl
  go_enter Try.func80, Try.ntmps80
  go_wp2_with fail
  refine (parts_calls0 _ _ _ _ _ _ _ Hm.out).mono ?_
  rintro e w1 ⟨ad, rfl, hb⟩
  obtain ⟨hc, hf⟩ := bcell hb
  have hz := hb.size
  simp at hz hc hf
  go_wp2_with fail
  refine wp_loop_rounds 1 ?_
  rw [rounds_succ]; go_wp2
  refine bodyPost_ret (v := T.val ⟨2, ⟨#[]⟩, n, 0, 0, 0⟩) (by simp [results, Try.results80, go_sem, T.val, hc]) rfl ⟨rfl, ?_⟩
  have hb0 : Below w.heap.size w w1 := (((((Below.refl _ _).alloc (Nat.le_refl _) _).alloc (by simp) _).alloc (by simp; omega) _).trans (hb.mono (by simp; omega)))
  clear hc hf
  repeat (first | with_reducible exact hb0 | refine Below.setCell ?_ (by dsimp only; omega) _)

set_option maxHeartbeats 1000000 in
theorem only_c (k : Int) (s : ByteArray) (n a b c : Int) (w : World) (hm : many k = 1) (h1 : (k == 1) = false) (h2 : (k == 2) = false) (h9 : (k == 9) = false) (h10 : (k == 10) = false) :
    Calls Try.prog 80 #[.agg #[.int .i64 k, .string s, .int .u64 n, .int .i64 a, .int .i64 b, .int .i64 c]] w fun e w' =>
      e = .returned (T.val ⟨k, ⟨#[]⟩, 0, a, 0, 0⟩) ∧ Below w.heap.size w w' := by
  have Hm := hid hm; clear hm
  have i0 : ∀ (x y z : Option Addr) (w : World), (Instr.index 193 (.agg #[.pointer x, .pointer y, .pointer z]) (.int .i64 0)).run Try.prog w = .ok (.pointer x) w := fun _ _ _ _ => by kernel_rfl
  go_enter Try.func80, Try.ntmps80
  go_wp2_with fail
  refine (parts_calls1 _ _ _ _ _ _ _ Hm.out).mono ?_
  rintro e w1 ⟨g, rfl, hb, hc0, hg⟩
  obtain ⟨hc, hf⟩ := bcell hb
  have hz := hb.size
  simp at hz hg hc hf
  go_wp2_with fail
  refine wp_loop_rounds 2 ?_
  rw [rounds_succ]; go_wp2
  rw [rounds_succ]; go_wp2
  refine bodyPost_ret (v := T.val ⟨k, ⟨#[]⟩, 0, a, 0, 0⟩) (by simp [results, Try.results80, go_sem, T.val, hc]) rfl ⟨rfl, ?_⟩
  have hb0 : Below w.heap.size w w1 := (((((Below.refl _ _).alloc (Nat.le_refl _) _).alloc (by simp) _).alloc (by simp; omega) _).trans (hb.mono (by simp; omega)))
  clear hc hf
  repeat (first | with_reducible exact hb0 | refine Below.setCell ?_ (by dsimp only; omega) _)

set_option maxHeartbeats 1000000 in
theorem only_d (k : Int) (s : ByteArray) (n a b c : Int) (w : World) (hm : many k = 2) (h1 : (k == 1) = false) (h2 : (k == 2) = false) (h9 : (k == 9) = false) (h10 : (k == 10) = false) :
    Calls Try.prog 80 #[.agg #[.int .i64 k, .string s, .int .u64 n, .int .i64 a, .int .i64 b, .int .i64 c]] w fun e w' =>
      e = .returned (T.val ⟨k, ⟨#[]⟩, 0, a, b, 0⟩) ∧ Below w.heap.size w w' := by
  have Hm := hid hm; clear hm
  have i0 : ∀ (x y z : Option Addr) (w : World), (Instr.index 193 (.agg #[.pointer x, .pointer y, .pointer z]) (.int .i64 0)).run Try.prog w = .ok (.pointer x) w := fun _ _ _ _ => by kernel_rfl
  have i1 : ∀ (x y z : Option Addr) (w : World), (Instr.index 193 (.agg #[.pointer x, .pointer y, .pointer z]) (.int .i64 1)).run Try.prog w = .ok (.pointer y) w := fun _ _ _ _ => by kernel_rfl
  go_enter Try.func80, Try.ntmps80
  go_wp2_with fail
  refine (parts_calls2 _ _ _ _ _ _ _ Hm.out).mono ?_
  rintro e w1 ⟨g, rfl, hb, hc0, hc1, hg⟩
  obtain ⟨hc, hf⟩ := bcell hb
  have hz := hb.size
  simp at hz hg hc hf
  go_wp2_with fail
  refine wp_loop_rounds 3 ?_
  rw [rounds_succ]; go_wp2
  rw [rounds_succ]; go_wp2
  rw [rounds_succ]; go_wp2
  refine bodyPost_ret (v := T.val ⟨k, ⟨#[]⟩, 0, a, b, 0⟩) (by simp [results, Try.results80, go_sem, T.val, hc]) rfl ⟨rfl, ?_⟩
  have hb0 : Below w.heap.size w w1 := (((((Below.refl _ _).alloc (Nat.le_refl _) _).alloc (by simp) _).alloc (by simp; omega) _).trans (hb.mono (by simp; omega)))
  clear hc hf
  repeat (first | with_reducible exact hb0 | refine Below.setCell ?_ (by dsimp only; omega) _)

set_option maxHeartbeats 1000000 in
theorem only_9 (s : ByteArray) (n a b c : Int) (w : World)   :
    Calls Try.prog 80 #[.agg #[.int .i64 9, .string s, .int .u64 n, .int .i64 a, .int .i64 b, .int .i64 c]] w fun e w' =>
      e = .returned (T.val ⟨9, ⟨#[]⟩, n, a, 0, 0⟩) ∧ Below w.heap.size w w' := by
  have Hm : Hid (many 9 = 1) := hid rfl
  have i0 : ∀ (x y z : Option Addr) (w : World), (Instr.index 193 (.agg #[.pointer x, .pointer y, .pointer z]) (.int .i64 0)).run Try.prog w = .ok (.pointer x) w := fun _ _ _ _ => by kernel_rfl
  go_enter Try.func80, Try.ntmps80
  go_wp2_with fail
  refine (parts_calls1 _ _ _ _ _ _ _ Hm.out).mono ?_
  rintro e w1 ⟨g, rfl, hb, hc0, hg⟩
  obtain ⟨hc, hf⟩ := bcell hb
  have hz := hb.size
  simp at hz hg hc hf
  go_wp2_with fail
  refine wp_loop_rounds 2 ?_
  rw [rounds_succ]; go_wp2
  rw [rounds_succ]; go_wp2
  refine bodyPost_ret (v := T.val ⟨9, ⟨#[]⟩, n, a, 0, 0⟩) (by simp [results, Try.results80, go_sem, T.val, hc]) rfl ⟨rfl, ?_⟩
  have hb0 : Below w.heap.size w w1 := (((((Below.refl _ _).alloc (Nat.le_refl _) _).alloc (by simp) _).alloc (by simp; omega) _).trans (hb.mono (by simp; omega)))
  clear hc hf
  repeat (first | with_reducible exact hb0 | refine Below.setCell ?_ (by dsimp only; omega) _)

set_option maxHeartbeats 1000000 in
theorem only_10 (s : ByteArray) (n a b c : Int) (w : World)   :
    Calls Try.prog 80 #[.agg #[.int .i64 10, .string s, .int .u64 n, .int .i64 a, .int .i64 b, .int .i64 c]] w fun e w' =>
      e = .returned (T.val ⟨10, ⟨#[]⟩, n, a, b, c⟩) ∧ Below w.heap.size w w' := by
  have Hm : Hid (many 10 = 3) := hid rfl
  have i0 : ∀ (x y z : Option Addr) (w : World), (Instr.index 193 (.agg #[.pointer x, .pointer y, .pointer z]) (.int .i64 0)).run Try.prog w = .ok (.pointer x) w := fun _ _ _ _ => by kernel_rfl
  have i1 : ∀ (x y z : Option Addr) (w : World), (Instr.index 193 (.agg #[.pointer x, .pointer y, .pointer z]) (.int .i64 1)).run Try.prog w = .ok (.pointer y) w := fun _ _ _ _ => by kernel_rfl
  have i2 : ∀ (x y z : Option Addr) (w : World), (Instr.index 193 (.agg #[.pointer x, .pointer y, .pointer z]) (.int .i64 2)).run Try.prog w = .ok (.pointer z) w := fun _ _ _ _ => by kernel_rfl
  go_enter Try.func80, Try.ntmps80
  go_wp2_with fail
  refine (parts_calls3 _ _ _ _ _ _ _ Hm.out).mono ?_
  rintro e w1 ⟨g, rfl, hb, hc0, hc1, hc2, hg⟩
  obtain ⟨hc, hf⟩ := bcell hb
  have hz := hb.size
  simp at hz hg hc hf
  go_wp2_with fail
  refine wp_loop_rounds 4 ?_
  rw [rounds_succ]; go_wp2
  rw [rounds_succ]; go_wp2
  rw [rounds_succ]; go_wp2
  rw [rounds_succ]; go_wp2
  refine bodyPost_ret (v := T.val ⟨10, ⟨#[]⟩, n, a, b, c⟩) (by simp [results, Try.results80, go_sem, T.val, hc]) rfl ⟨rfl, ?_⟩
  have hb0 : Below w.heap.size w w1 := (((((Below.refl _ _).alloc (Nat.le_refl _) _).alloc (by simp) _).alloc (by simp; omega) _).trans (hb.mono (by simp; omega)))
  clear hc hf
  repeat (first | with_reducible exact hb0 | refine Below.setCell ?_ (by dsimp only; omega) _)

set_option maxHeartbeats 1000000 in
theorem only_o (k : Int) (s : ByteArray) (n a b c : Int) (w : World) (hm : many k = 0) (h1 : (k == 1) = false) (h2 : (k == 2) = false) (h9 : (k == 9) = false) (h10 : (k == 10) = false) :
    Calls Try.prog 80 #[.agg #[.int .i64 k, .string s, .int .u64 n, .int .i64 a, .int .i64 b, .int .i64 c]] w fun e w' =>
      e = .returned (T.val ⟨k, ⟨#[]⟩, 0, 0, 0, 0⟩) ∧ Below w.heap.size w w' := by
  have Hm := hid hm; clear hm
  go_enter Try.func80, Try.ntmps80
  go_wp2_with fail
  refine (parts_calls0 _ _ _ _ _ _ _ Hm.out).mono ?_
  rintro e w1 ⟨ad, rfl, hb⟩
  obtain ⟨hc, hf⟩ := bcell hb
  have hz := hb.size
  simp at hz hc hf
  go_wp2_with fail
  refine wp_loop_rounds 1 ?_
  rw [rounds_succ]; go_wp2
  refine bodyPost_ret (v := T.val ⟨k, ⟨#[]⟩, 0, 0, 0, 0⟩) (by simp [results, Try.results80, go_sem, T.val, hc]) rfl ⟨rfl, ?_⟩
  have hb0 : Below w.heap.size w w1 := (((((Below.refl _ _).alloc (Nat.le_refl _) _).alloc (by simp) _).alloc (by simp; omega) _).trans (hb.mono (by simp; omega)))
  clear hc hf
  repeat (first | with_reducible exact hb0 | refine Below.setCell ?_ (by dsimp only; omega) _)

theorem only_calls (k : Int) (s : ByteArray) (n a b c : Int) (w : World) :
    Calls Try.prog 80 #[.agg #[.int .i64 k, .string s, .int .u64 n, .int .i64 a, .int .i64 b, .int .i64 c]] w fun e w' =>
      e = .returned (T.val (T.only ⟨k, s, n, a, b, c⟩)) ∧ Below w.heap.size w w' := by
  by_cases k1 : k = 1
  · subst k1; exact only_1 s n a b c w
  by_cases k2 : k = 2
  · subst k2; exact only_2 s n a b c w
  by_cases k9 : k = 9
  · subst k9; exact only_9 s n a b c w
  by_cases k10 : k = 10
  · subst k10; exact only_10 s n a b c w
  have e1 : (k == 1) = false := by simpa using k1
  have e2 : (k == 2) = false := by simpa using k2
  have e9 : (k == 9) = false := by simpa using k9
  have e10 : (k == 10) = false := by simpa using k10
  have hm : many k = 0 ∨ many k = 1 ∨ many k = 2 := by
    unfold many; split
    · simp
    · split
      · simp
      · simp
  rcases hm with h | h | h
  · have := only_o k s n a b c w h e1 e2 e9 e10
    simpa [T.only, k1, k2, k9, k10, h] using this
  · have := only_c k s n a b c w h e1 e2 e9 e10
    simpa [T.only, k1, k2, k9, k10, h] using this
  · have := only_d k s n a b c w h e1 e2 e9 e10
    simpa [T.only, k1, k2, k9, k10, h] using this
end Go.Proofs.Ytpcfmafokkffgaa
