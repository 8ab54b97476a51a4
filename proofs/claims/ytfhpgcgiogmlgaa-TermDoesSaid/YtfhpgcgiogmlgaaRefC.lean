/-
  Walks through what the statements share of the document's layer 2: Ref, Parts, Get. For every term and every memory that holds a store.
-/
import Derived.Test.YtfhpgcgiogmlgaaRPutB
import Derived.Test.YtfhpgcgiogmlgaaPureB
namespace Go.Proofs.Ytfhpgcgiogmlgaa
open Go.RowKit

set_option maxHeartbeats 1000000 in
theorem ref_calls (k : Int) (s : ByteArray) (n a b c : Int) (w : World) :
    Calls Try.prog 20 #[.agg #[.int .i64 k, .string s, .int .u64 n, .int .i64 a, .int .i64 b, .int .i64 c]] w fun e w' =>
      e = .returned (T.val ⟨k, s, n, a, b, c⟩) ∧ Below w.heap.size w w' := by
  go_enter Try.func20, Try.ntmps20
  go_wp2
  refine bodyPost_ret (v := T.val ⟨k, s, n, a, b, c⟩) (by simp [results, Try.results20, go_sem, T.val]) rfl ⟨rfl, ?_⟩
  exact ((Below.refl _ _).alloc (Nat.le_refl _) _).alloc (by simp) _

set_option maxHeartbeats 1000000 in
theorem rparts_calls (k : Int) (s : ByteArray) (n a b c : Int) (w : World) :
    Calls Try.prog 26 #[.agg #[.int .i64 k, .string s, .int .u64 n, .int .i64 a, .int .i64 b, .int .i64 c]] w fun e w' =>
      ∃ g, e = .returned (.slice (some ⟨g, 0, none⟩) (many k) 3) ∧ Below w.heap.size w w' ∧ w'.cell? ⟨g, 0, none⟩ = some (.int .i64 a) ∧ w'.cell? ⟨g, 1, none⟩ = some (.int .i64 b) ∧ w'.cell? ⟨g, 2, none⟩ = some (.int .i64 c) ∧ w.heap.size ≤ g := by
  have hm := many_le k
  have Hm := hid (many_calls k)
  generalize many k = q at *
  go_enter Try.func26, Try.ntmps26
  go_wp2_with fail
  refine (Hm.out _).mono ?_
  rintro e w' ⟨rfl, rfl⟩
  have h0 : (0 : Int) ≤ (q : Int) := by omega
  have h3 : (q : Int) ≤ 3 := by omega
  go_wp2_with fail
  go_ret
  exact ⟨w.heap.size + 1, rfl, ((Below.refl _ _).alloc (Nat.le_refl _) _).alloc (by simp) _, by simp, by simp, by simp, by omega⟩

set_option maxHeartbeats 400000 in
theorem rget_low {b : Nat} {x : Int} {w : World} (hx : x < 1) :
    Calls Try.prog 29 #[.pointer (some ⟨b, 0, none⟩), .int .i64 x] w fun e w' => e = .returned (.tuple #[T.val zeroT, .bool false]) ∧ Below w.heap.size w w' := by
  have hd : decide (x < 1) = true := by simpa using hx
  go_enter Try.func29, Try.ntmps29
  go_wp2
  refine bodyPost_ret (v := .tuple #[T.val zeroT, .bool false]) (by simp [results, Try.results29, go_sem, T.val, zeroT]) rfl ⟨rfl, ?_⟩
  exact (Below.refl _ _).alloc (Nat.le_refl _) _

set_option maxHeartbeats 400000 in
theorem rget_high {b : Nat} {L : List T} {m : Int} {a : Option Addr} {cap : Nat} {x : Int} {w : World} (h : RStoAt w b L m a cap) (hx : (L.length : Int) < x) (h1 : ¬ x < 1) :
    Calls Try.prog 29 #[.pointer (some ⟨b, 0, none⟩), .int .i64 x] w fun e w' => e = .returned (.tuple #[T.val zeroT, .bool false]) ∧ Below w.heap.size w w' := by
  have hd : decide (x < 1) = false := by simpa using h1
  have hd2 : decide ((L.length : Int) < x) = true := by simpa using hx
  have h0 := h.c0
  have hlt := h.lt
  have h1 : L.length ≤ 1048576 := by have := h.ok.m1; have := h.ok.len; omega
  clear h
  go_enter Try.func29, Try.ntmps29
  go_wp2
  refine bodyPost_ret (v := .tuple #[T.val zeroT, .bool false]) (by simp [results, Try.results29, go_sem, T.val, zeroT]) rfl ⟨rfl, ?_⟩
  exact (Below.refl _ _).alloc (Nat.le_refl _) _

set_option maxHeartbeats 400000 in
theorem rget_mid {b : Nat} {L : List T} {m : Int} {a : Option Addr} {cap : Nat} {i : Nat} {t : T} {w : World} (h : RStoAt w b L m a cap) (hi : L[i]? = some t) :
    Calls Try.prog 29 #[.pointer (some ⟨b, 0, none⟩), .int .i64 ((i : Int) + 1)] w fun e w' => e = .returned (.tuple #[T.val t, .bool true]) ∧ Below w.heap.size w w' := by
  have hlen : i < L.length := (List.getElem?_eq_some_iff.1 hi).1
  have hd : decide ((i : Int) + 1 < 1) = false := by simp; omega
  have hd2 : decide ((L.length : Int) < (i : Int) + 1) = false := by simp; omega
  have h0 := h.c0
  have hlt := h.lt
  have h1 : L.length ≤ 1048576 := by have := h.ok.m1; have := h.ok.len; omega
  obtain ⟨g, rfl, hg, hc⟩ := h.cl i t hi
  obtain ⟨k, s, n, a, b', c⟩ := t
  have g0 := hc 0 _ rfl
  have g1 := hc 1 _ rfl
  have g2 := hc 2 _ rfl
  have g3 := hc 3 _ rfl
  have g4 := hc 4 _ rfl
  have g5 := hc 5 _ rfl
  simp only [Nat.add_zero] at g0
  have e1 : (i : Int) + 1 - 1 = i := by omega
  clear h hc hi
  go_enter Try.func29, Try.ntmps29
  go_wp2
  refine bodyPost_ret (v := .tuple #[T.val (⟨k, s, n, a, b', c⟩ : T), .bool true]) (by simp [results, Try.results29, go_sem, T.val]) rfl ⟨rfl, ?_⟩
  exact (Below.refl _ _).alloc (Nat.le_refl _) _

theorem rget_calls {b : Nat} {L : List T} {m : Int} {a : Option Addr} {cap : Nat} (x : Int) {w : World} (h : RStoAt w b L m a cap) :
    Calls Try.prog 29 #[.pointer (some ⟨b, 0, none⟩), .int .i64 x] w fun e w' => e = .returned (.tuple #[T.val (getT L x), .bool (getB L x)]) ∧ Below w.heap.size w w' := by
  by_cases h1 : x < 1
  · obtain ⟨e1, e2⟩ := getT_out (L := L) (.inl h1)
    rw [e1, e2]; exact rget_low h1
  by_cases h2 : (L.length : Int) < x
  · obtain ⟨e1, e2⟩ := getT_out (L := L) (.inr h2)
    rw [e1, e2]; exact rget_high h h2 h1
  obtain ⟨i, hi, rfl⟩ := nat_of_range (x := x) (n := L.length) (by omega) (by omega)
  have hg : L[i]? = some L[i] := List.getElem?_eq_getElem hi
  obtain ⟨e1, e2⟩ := getT_in hg
  rw [e1, e2]; exact rget_mid h hg
end Go.Proofs.Ytfhpgcgiogmlgaa
