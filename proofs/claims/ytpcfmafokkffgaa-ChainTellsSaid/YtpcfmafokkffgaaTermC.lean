/-
  Walks through package term: Get, Depth, may, New. For every argument and every memory that holds a store.
-/
import Derived.Test.YtpcfmafokkffgaaEq
namespace Go.Proofs.Ytpcfmafokkffgaa
open Go.RowKit

theorem getT_in {L : List T} {i : Nat} {t : T} (h : L[i]? = some t) : getT L ((i : Int) + 1) = t ∧ getB L ((i : Int) + 1) = true := by
  have e : ((i : Int) + 1 - 1).toNat = i := by omega
  have : get L ((i : Int) + 1) = some t := by simp only [get]; rw [if_pos (by omega), e]; exact h
  simp [getT, getB, this]

theorem getT_out {L : List T} {x : Int} (h : x < 1 ∨ (L.length : Int) < x) : getT L x = zeroT ∧ getB L x = false := by
  have : get L x = none := by
    unfold get
    split
    · rw [List.getElem?_eq_none]; omega
    · rfl
  simp [getT, getB, this]

set_option maxHeartbeats 400000 in
theorem get_low {b : Nat} {x : Int} {w : World} (hx : x < 1) :
    Calls Try.prog 49 #[.pointer (some ⟨b, 0, none⟩), .int .i64 x] w fun e w' => e = .returned (.tuple #[T.val zeroT, .bool false]) ∧ Below w.heap.size w w' := by
  have hd : decide (x < 1) = true := by simpa using hx
  go_enter Try.func49, Try.ntmps49
  go_wp2
  refine bodyPost_ret (v := .tuple #[T.val zeroT, .bool false]) (by simp [results, Try.results49, go_sem, T.val, zeroT]) rfl ⟨rfl, ?_⟩
  exact (Below.refl _ _).alloc (Nat.le_refl _) _

set_option maxHeartbeats 400000 in
theorem get_high {b : Nat} {L : List T} {m : Int} {lb db mb lc dc : Nat} {x : Int} {w : World} (h : StoAt w b L m lb db mb lc dc) (hx : (L.length : Int) < x) (h1 : ¬ x < 1) :
    Calls Try.prog 49 #[.pointer (some ⟨b, 0, none⟩), .int .i64 x] w fun e w' => e = .returned (.tuple #[T.val zeroT, .bool false]) ∧ Below w.heap.size w w' := by
  have hd : decide (x < 1) = false := by simpa using h1
  have hd2 : decide ((L.length : Int) < x) = true := by simpa using hx
  have h0 := h.c0
  have hlt := h.lt
  have h1 : L.length ≤ 1048576 := by have := h.m1; have := h.len; omega
  clear h
  go_enter Try.func49, Try.ntmps49
  go_wp2
  refine bodyPost_ret (v := .tuple #[T.val zeroT, .bool false]) (by simp [results, Try.results49, go_sem, T.val, zeroT]) rfl ⟨rfl, ?_⟩
  exact (Below.refl _ _).alloc (Nat.le_refl _) _

set_option maxHeartbeats 400000 in
theorem get_mid {b : Nat} {L : List T} {m : Int} {lb db mb lc dc : Nat} {i : Nat} {t : T} {w : World} (h : StoAt w b L m lb db mb lc dc) (hi : L[i]? = some t) :
    Calls Try.prog 49 #[.pointer (some ⟨b, 0, none⟩), .int .i64 ((i : Int) + 1)] w fun e w' => e = .returned (.tuple #[T.val t, .bool true]) ∧ Below w.heap.size w w' := by
  have hlen : i < L.length := (List.getElem?_eq_some_iff.1 hi).1
  have hd : decide ((i : Int) + 1 < 1) = false := by simp; omega
  have hd2 : decide ((L.length : Int) < (i : Int) + 1) = false := by simp; omega
  have h0 := h.c0
  have hlt := h.lt
  have h1 : L.length ≤ 1048576 := by have := h.m1; have := h.len; omega
  have hllt := h.llt
  have hc := h.cl (i + 1) t (by simpa using hi)
  obtain ⟨k, s, n, a, b', c⟩ := t
  have g0 := hc 0 _ rfl
  have g1 := hc 1 _ rfl
  have g2 := hc 2 _ rfl
  have g3 := hc 3 _ rfl
  have g4 := hc 4 _ rfl
  have g5 := hc 5 _ rfl
  simp only [Nat.add_zero] at g0
  clear h hc hi
  go_enter Try.func49, Try.ntmps49
  go_wp2
  refine bodyPost_ret (v := .tuple #[T.val (⟨k, s, n, a, b', c⟩ : T), .bool true]) (by simp [results, Try.results49, go_sem, T.val]) rfl ⟨rfl, ?_⟩
  exact (Below.refl _ _).alloc (Nat.le_refl _) _

theorem nat_of_range {x : Int} {n : Nat} (h1 : 1 ≤ x) (h2 : x ≤ n) : ∃ i : Nat, i < n ∧ x = (i : Int) + 1 := ⟨(x - 1).toNat, by omega, by omega⟩

theorem get_calls {b : Nat} {L : List T} {m : Int} {lb db mb lc dc : Nat} (x : Int) {w : World} (h : StoAt w b L m lb db mb lc dc) :
    Calls Try.prog 49 #[.pointer (some ⟨b, 0, none⟩), .int .i64 x] w fun e w' => e = .returned (.tuple #[T.val (getT L x), .bool (getB L x)]) ∧ Below w.heap.size w w' := by
  by_cases h1 : x < 1
  · obtain ⟨e1, e2⟩ := getT_out (L := L) (.inl h1)
    rw [e1, e2]; exact get_low h1
  by_cases h2 : (L.length : Int) < x
  · obtain ⟨e1, e2⟩ := getT_out (L := L) (.inr h2)
    rw [e1, e2]; exact get_high h h2 h1
  obtain ⟨i, hi, rfl⟩ := nat_of_range (x := x) (n := L.length) (by omega) (by omega)
  have hg : L[i]? = some L[i] := List.getElem?_eq_getElem hi
  obtain ⟨e1, e2⟩ := getT_in hg
  rw [e1, e2]; exact get_mid h hg





set_option maxHeartbeats 400000 in
theorem new_bad {x : Int} {w : World} (hx : x < 0 ∨ 1048576 < x) :
    Calls Try.prog 23 #[.int .i64 x] w fun e w' => e = .returned (.tuple #[.pointer none, .int .i64 1]) ∧ w = w' := by
  by_cases h0 : x < 0
  · have hd : decide (x < 0) = true := by simpa using h0
    go_enter Try.func23, Try.ntmps23
    go_wp2
    go_ret2
    exact ⟨rfl, rfl⟩
  · have hd : decide (x < 0) = false := by simpa using h0
    have hd2 : decide (1048576 < x) = true := by simp; omega
    go_enter Try.func23, Try.ntmps23
    go_wp2
    go_ret2
    exact ⟨rfl, rfl⟩

set_option maxHeartbeats 400000 in
theorem new_calls {W w : World} {Rs : List Res} {x : Int} (h : Hd W w Rs) (h0 : 0 ≤ x) (h1 : x ≤ 1048576) :
    Calls Try.prog 23 #[.int .i64 x] w fun e w' => ∃ b, e = .returned (.tuple #[.pointer (some ⟨b, 0, none⟩), .int .i64 0]) ∧ Hd W w' (Sto b [] x :: Rs) := by
  have hd : decide (x < 0) = false := by simp; omega
  have hd2 : decide (1048576 < x) = false := by simp; omega
  have hmm := @run_makeMap Try.prog
  have Hh := hid h; clear h
  go_enter Try.func23, Try.ntmps23
  go_wp2
  go_ret2
  refine ⟨w.heap.size + 1 + 1 + 1, rfl, ?_⟩
  refine Hh.out.add (((((Below.refl _ _).alloc (Nat.le_refl _) _).alloc (by simp) _).alloc (by simp <;> omega) _).alloc (by simp <;> omega) _)
    (stoFrag (w.heap.size + 1 + 1 + 1) w.heap.size (w.heap.size + 1) (w.heap.size + 1 + 1) 1 1 0 #[.int .i64 0, .string ⟨#[]⟩, .int .u64 0, .int .i64 0, .int .i64 0, .int .i64 0] #[.int .i64 0] #[] 1 x)
    ⟨_, _, _, _, _, _, _, _, _, rfl, ⟨good_nil, h0, h1, by simpa using h0, ⟨by omega, by omega, by omega, by omega, by omega, by omega⟩, rfl, by simp, by simp [maxLen], rfl, rfl, by simp, by simp [maxLen], rfl, rfl⟩⟩
    (stoFrag_in (heap_at (by simp)) ?_ ?_ ?_) (fun k hk => by rcases stoFrag_at hk with h | h | h | h <;> omega)
  · rw [Below.heap_alloc _ _ _ (by simp <;> omega), Below.heap_alloc _ _ _ (by simp <;> omega), Below.heap_alloc _ _ _ (by simp)]; exact heap_at rfl
  · rw [Below.heap_alloc _ _ _ (by simp <;> omega), Below.heap_alloc _ _ _ (by simp)]; exact heap_at (by simp)
  · rw [Below.heap_alloc _ _ _ (by simp)]; exact heap_at (by simp)
end Go.Proofs.Ytpcfmafokkffgaa
