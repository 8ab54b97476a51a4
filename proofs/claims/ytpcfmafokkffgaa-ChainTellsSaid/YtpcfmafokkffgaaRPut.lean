/-
  Walks through the document's package of layer 2: (*Store).Put, where nothing is put. For every term and every memory that holds a store.
-/
import Derived.Test.YtpcfmafokkffgaaRMay
namespace Go.Proofs.Ytpcfmafokkffgaa
open Go.RowKit

set_option maxHeartbeats 400000 in
theorem reqlIn_T (k n a b c k' n' a' b' c' : Int) (s s' : ByteArray) (w : World) :
    (Op.equalIn 10000 114 (.agg #[.int .i64 k, .string s, .int .u64 n, .int .i64 a, .int .i64 b, .int .i64 c]) (.agg #[.int .i64 k', .string s', .int .u64 n', .int .i64 a', .int .i64 b', .int .i64 c'])).run Try.prog w = .ok (decide ((⟨k, s, n, a, b, c⟩ : T) = ⟨k', s', n', a', b', c'⟩)) w := by
  go_simp
  simp only [bytes_eq]
  by_cases h1 : k = k' <;> by_cases h2 : s = s' <;> by_cases h3 : n = n' <;> by_cases h4 : a = a' <;> by_cases h5 : b = b' <;> by_cases h6 : c = c' <;> simp [h1, h2, h3, h4, h5, h6]

theorem reql_T (x y : T) (w : World) : (binOp .eql 114 (T.val x) (T.val y)).run Try.prog w = .ok (.bool (decide (x = y))) w := by
  obtain ⟨k, s, n, a, b, c⟩ := x
  obtain ⟨k', s', n', a', b', c'⟩ := y
  rw [T.val, T.val, run_eql_struct, reqlIn_T]
  rfl

theorem rneq_T (x y : T) (w : World) : (binOp .neq 114 (T.val x) (T.val y)).run Try.prog w = .ok (.bool (!decide (x = y))) w := by
  obtain ⟨k, s, n, a, b, c⟩ := x
  obtain ⟨k', s', n', a', b', c'⟩ := y
  rw [T.val, T.val, run_neq_struct, reqlIn_T]
  rfl

theorem find_ne {t : T} {L : List T} {i : Nat} (h : find t L = some i) {j : Nat} (hj : j < i) {u : T} (hu : L[j]? = some u) : u ≠ t := by
  induction L generalizing i j with
  | nil => simp at hu
  | cons v L ih =>
    simp only [find] at h
    split at h
    · simp only [Option.some.injEq] at h; omega
    · rename_i hne
      cases hf : find t L with
      | none => simp [hf] at h
      | some r =>
        simp only [hf, Option.map_some, Option.some.injEq] at h
        subst h
        cases j with
        | zero => simp only [List.getElem?_cons_zero, Option.some.injEq] at hu; rw [← hu]; exact hne
        | succ j => exact ih hf (Nat.lt_of_succ_lt_succ hj) (by simpa using hu)

set_option maxRecDepth 100000 in
set_option maxHeartbeats 4000000 in
theorem rput_no {b : Nat} {L : List T} {m : Int} {a : Option Addr} {cap : Nat} (k : Int) (s : ByteArray) (n a1 b1 c1 : Int) {w : World} (h : RStoAt w b L m a cap) (hm : ¬ T.may L.length ⟨k, s, n, a1, b1, c1⟩) :
    Calls Try.prog 52 #[.pointer (some ⟨b, 0, none⟩), T.val ⟨k, s, n, a1, b1, c1⟩] w fun e w' => e = .returned (.tuple #[.int .i64 0, .int .i64 1]) ∧ Below w.heap.size w w' := by
  have Hq : Hid (∀ w', RStoAt w' b L m a cap → Calls Try.prog 78 #[.pointer (some ⟨b, 0, none⟩), .agg #[.int .i64 k, .string s, .int .u64 n, .int .i64 a1, .int .i64 b1, .int .i64 c1]] w' fun e w'' => e = .returned (.bool false) ∧ Below w'.heap.size w' w'') := hid fun w' h' => by
    have hq := rmay_calls k s n a1 b1 c1 h'
    rw [decide_eq_false hm] at hq
    exact hq
  have Hs : Hid (∀ o, RStoAt (w.alloc o) b L m a cap) := hid fun o => h.later ((Below.refl _ _).alloc (Nat.le_refl _) _)
  clear h hm
  simp only [T.val]
  go_enter Try.func52, Try.ntmps52
  go_wp2_with fail
  refine (Hq.out _ (Hs.out _)).mono ?_
  rintro e w1 ⟨rfl, hb1⟩
  have hbw : Below w.heap.size w w1 := ((Below.refl _ _).alloc (Nat.le_refl _) _).trans (hb1.mono (by simp <;> omega))
  clear hb1 Hq Hs
  go_wp2_with fail
  go_ret2
  exact ⟨rfl, hbw⟩

set_option maxRecDepth 100000 in
set_option maxHeartbeats 4000000 in
theorem rput_is {b : Nat} {L : List T} {m : Int} {a : Option Addr} {cap : Nat} (k : Int) (s : ByteArray) (n a1 b1 c1 : Int) {w : World} (h : RStoAt w b L m a cap) (hm : T.may L.length ⟨k, s, n, a1, b1, c1⟩) {i : Nat} (hi : find ⟨k, s, n, a1, b1, c1⟩ L = some i) :
    Calls Try.prog 52 #[.pointer (some ⟨b, 0, none⟩), T.val ⟨k, s, n, a1, b1, c1⟩] w fun e w' => e = .returned (.tuple #[.int .i64 ((i : Int) + 1), .int .i64 0]) ∧ Below w.heap.size w w' := by
  have Hi := hid hi
  have hil := find_lt hi
  have hl : L.length ≤ 1048576 := by have := h.ok.m1; have := h.ok.len; omega
  clear hi
  have Hq : Hid (∀ w', RStoAt w' b L m a cap → Calls Try.prog 78 #[.pointer (some ⟨b, 0, none⟩), .agg #[.int .i64 k, .string s, .int .u64 n, .int .i64 a1, .int .i64 b1, .int .i64 c1]] w' fun e w'' => e = .returned (.bool true) ∧ Below w'.heap.size w' w'') := hid fun w' h' => by
    have hq := rmay_calls k s n a1 b1 c1 h'
    rw [decide_eq_true hm] at hq
    exact hq
  have Hs : Hid (∀ o, RStoAt (w.alloc o) b L m a cap) := hid fun o => h.later ((Below.refl _ _).alloc (Nat.le_refl _) _)
  clear h hm
  simp only [T.val]
  go_enter Try.func52, Try.ntmps52
  go_wp2_with fail
  refine (Hq.out _ (Hs.out _)).mono ?_
  rintro e w1 ⟨rfl, hb1⟩
  have hs1 := (Hs.out _).later hb1
  have hbox : w1.heap[w.heap.size]? = some (.cells #[.int .i64 k, .string s, .int .u64 n, .int .i64 a1, .int .i64 b1, .int .i64 c1] 114) := by rw [hb1.block _ (by simp)]; exact heap_at rfl
  have hbw : Below w.heap.size w w1 := ((Below.refl _ _).alloc (Nat.le_refl _) _).trans (hb1.mono (by simp <;> omega))
  clear hb1
  have d0 : ∀ x : Later w1, x.w.cell? ⟨w.heap.size, 0, none⟩ = some (.int .i64 k) := fun x => x.cell (by rw [cell_of_heap hbox]; rfl)
  have d1 : ∀ x : Later w1, x.w.cell? ⟨w.heap.size, 1, none⟩ = some (.string s) := fun x => x.cell (by rw [cell_of_heap hbox]; rfl)
  have d2 : ∀ x : Later w1, x.w.cell? ⟨w.heap.size, 2, none⟩ = some (.int .u64 n) := fun x => x.cell (by rw [cell_of_heap hbox]; rfl)
  have d3 : ∀ x : Later w1, x.w.cell? ⟨w.heap.size, 3, none⟩ = some (.int .i64 a1) := fun x => x.cell (by rw [cell_of_heap hbox]; rfl)
  have d4 : ∀ x : Later w1, x.w.cell? ⟨w.heap.size, 4, none⟩ = some (.int .i64 b1) := fun x => x.cell (by rw [cell_of_heap hbox]; rfl)
  have d5 : ∀ x : Later w1, x.w.cell? ⟨w.heap.size, 5, none⟩ = some (.int .i64 c1) := fun x => x.cell (by rw [cell_of_heap hbox]; rfl)
  have D0 := hid d0
  have D1 := hid d1
  have D2 := hid d2
  have D3 := hid d3
  have D4 := hid d4
  have D5 := hid d5
  have Hs1 := hid hs1
  have Hbox := hid hbox
  have Hbw := hid hbw
  clear hbox hbw hs1 d0 d1 d2 d3 d4 d5
  go_wp2_with fail
  go_loopw [6] (fun i6 wr => ∃ j : Nat, j ≤ i ∧ i6 = .int .i64 j ∧ Hid (Below w1.heap.size w1 wr)) (fun i6 _ => i - (intOf i6).toNat)
  case atStart => exact ⟨0, Nat.zero_le _, rfl, hid (Below.refl _ _)⟩
  case round =>
    obtain ⟨j, hj, rfl, Hb⟩ := hrel
    obtain ⟨t, ht⟩ : ∃ t, L[j]? = some t := ⟨L[j]'(by omega), List.getElem?_eq_getElem _⟩
    by_cases hu : t = ⟨k, s, n, a1, b1, c1⟩
    · have hji : j = i := by
        by_cases hlt : j < i
        · exact absurd hu (find_ne Hi.out hlt ht)
        · omega
      have Hji := hid hji
      clear hji
      obtain ⟨k', s', n', a2, b2, c2⟩ := t
      obtain ⟨g, rfl, hg, hc⟩ := Hs1.out.cl j ⟨k', s', n', a2, b2, c2⟩ ht
      have e0 : ∀ x : Later wr, x.w.cell? ⟨b, 0, none⟩ = some (.slice (some ⟨g, 0, none⟩) L.length cap) := fun x => x.cell ((Hb.out.cell (p := ⟨b, 0, none⟩) Hs1.out.lt).trans Hs1.out.c0)
      have r0 : wr.cell? ⟨b, 0, none⟩ = some (.slice (some ⟨g, 0, none⟩) L.length cap) := (Hb.out.cell (p := ⟨b, 0, none⟩) Hs1.out.lt).trans Hs1.out.c0
      have g0 : ∀ x : Later wr, x.w.cell? ⟨g, j * 6, none⟩ = some (.int .i64 k') := fun x => x.cell ((Hb.out.cell (p := ⟨g, j * 6 + 0, none⟩) hg).trans (hc 0 _ rfl))
      have g1 : ∀ x : Later wr, x.w.cell? ⟨g, j * 6 + 1, none⟩ = some (.string s') := fun x => x.cell ((Hb.out.cell (p := ⟨g, j * 6 + 1, none⟩) hg).trans (hc 1 _ rfl))
      have g2 : ∀ x : Later wr, x.w.cell? ⟨g, j * 6 + 2, none⟩ = some (.int .u64 n') := fun x => x.cell ((Hb.out.cell (p := ⟨g, j * 6 + 2, none⟩) hg).trans (hc 2 _ rfl))
      have g3 : ∀ x : Later wr, x.w.cell? ⟨g, j * 6 + 3, none⟩ = some (.int .i64 a2) := fun x => x.cell ((Hb.out.cell (p := ⟨g, j * 6 + 3, none⟩) hg).trans (hc 3 _ rfl))
      have g4 : ∀ x : Later wr, x.w.cell? ⟨g, j * 6 + 4, none⟩ = some (.int .i64 b2) := fun x => x.cell ((Hb.out.cell (p := ⟨g, j * 6 + 4, none⟩) hg).trans (hc 4 _ rfl))
      have g5 : ∀ x : Later wr, x.w.cell? ⟨g, j * 6 + 5, none⟩ = some (.int .i64 c2) := fun x => x.cell ((Hb.out.cell (p := ⟨g, j * 6 + 5, none⟩) hg).trans (hc 5 _ rfl))
      have f0 : ∀ x : Later wr, x.w.cell? ⟨w.heap.size, 0, none⟩ = some (.int .i64 k) := fun x => D0.out ⟨x.w, Hb.out.trans (x.below.mono Hb.out.size)⟩
      have f1 : ∀ x : Later wr, x.w.cell? ⟨w.heap.size, 1, none⟩ = some (.string s) := fun x => D1.out ⟨x.w, Hb.out.trans (x.below.mono Hb.out.size)⟩
      have f2 : ∀ x : Later wr, x.w.cell? ⟨w.heap.size, 2, none⟩ = some (.int .u64 n) := fun x => D2.out ⟨x.w, Hb.out.trans (x.below.mono Hb.out.size)⟩
      have f3 : ∀ x : Later wr, x.w.cell? ⟨w.heap.size, 3, none⟩ = some (.int .i64 a1) := fun x => D3.out ⟨x.w, Hb.out.trans (x.below.mono Hb.out.size)⟩
      have f4 : ∀ x : Later wr, x.w.cell? ⟨w.heap.size, 4, none⟩ = some (.int .i64 b1) := fun x => D4.out ⟨x.w, Hb.out.trans (x.below.mono Hb.out.size)⟩
      have f5 : ∀ x : Later wr, x.w.cell? ⟨w.heap.size, 5, none⟩ = some (.int .i64 c1) := fun x => D5.out ⟨x.w, Hb.out.trans (x.below.mono Hb.out.size)⟩
      have hj0 : (0 : Int) ≤ (j : Int) := by omega
      have hj1 : (j : Int) < (L.length : Int) := by omega
      have hd1 : decide ((j : Int) < (L.length : Int)) = true := by simp; omega
      have hd2 : decide (j < L.length) = true := by simp; omega
      have heq : ∀ w : World, (binOp .eql 114 (.agg #[.int .i64 k', .string s', .int .u64 n', .int .i64 a2, .int .i64 b2, .int .i64 c2]) (.agg #[.int .i64 k, .string s, .int .u64 n, .int .i64 a1, .int .i64 b1, .int .i64 c1])).run Try.prog w = .ok (.bool true) w := fun w => by
        have := reql_T ⟨k', s', n', a2, b2, c2⟩ ⟨k, s, n, a1, b1, c1⟩ w
        rw [decide_eq_true hu] at this
        exact this
      clear hu hc hg
      go_wp2_with fail
      refine wp_region_calm (by kernel_rfl) (by kernel_rfl) ?_
      repeat (go_big_quiet_step (fail))
      refine wpQuiet_nil ?_
      intro w3 hw3
      obtain ⟨⟨w3, hb3⟩, rfl⟩ := hw3
      clear e0 r0 g0 g1 g2 g3 g4 g5 f0 f1 f2 f3 f4 f5 heq
      go_wp2_with fail
      go_ret2
      exact ⟨by rw [← Hji.out]; rfl, Hbw.out.trans ((Hb.out.trans (hb3.mono Hb.out.size)).mono Hbw.out.size)⟩
    · have hlt : j < i := by
        by_cases hlt : j < i
        · exact hlt
        · have : j = i := by omega
          rw [this, find_some Hi.out] at ht
          exact absurd (Option.some.inj ht).symm hu
      obtain ⟨k', s', n', a2, b2, c2⟩ := t
      obtain ⟨g, rfl, hg, hc⟩ := Hs1.out.cl j ⟨k', s', n', a2, b2, c2⟩ ht
      have e0 : ∀ x : Later wr, x.w.cell? ⟨b, 0, none⟩ = some (.slice (some ⟨g, 0, none⟩) L.length cap) := fun x => x.cell ((Hb.out.cell (p := ⟨b, 0, none⟩) Hs1.out.lt).trans Hs1.out.c0)
      have r0 : wr.cell? ⟨b, 0, none⟩ = some (.slice (some ⟨g, 0, none⟩) L.length cap) := (Hb.out.cell (p := ⟨b, 0, none⟩) Hs1.out.lt).trans Hs1.out.c0
      have g0 : ∀ x : Later wr, x.w.cell? ⟨g, j * 6, none⟩ = some (.int .i64 k') := fun x => x.cell ((Hb.out.cell (p := ⟨g, j * 6 + 0, none⟩) hg).trans (hc 0 _ rfl))
      have g1 : ∀ x : Later wr, x.w.cell? ⟨g, j * 6 + 1, none⟩ = some (.string s') := fun x => x.cell ((Hb.out.cell (p := ⟨g, j * 6 + 1, none⟩) hg).trans (hc 1 _ rfl))
      have g2 : ∀ x : Later wr, x.w.cell? ⟨g, j * 6 + 2, none⟩ = some (.int .u64 n') := fun x => x.cell ((Hb.out.cell (p := ⟨g, j * 6 + 2, none⟩) hg).trans (hc 2 _ rfl))
      have g3 : ∀ x : Later wr, x.w.cell? ⟨g, j * 6 + 3, none⟩ = some (.int .i64 a2) := fun x => x.cell ((Hb.out.cell (p := ⟨g, j * 6 + 3, none⟩) hg).trans (hc 3 _ rfl))
      have g4 : ∀ x : Later wr, x.w.cell? ⟨g, j * 6 + 4, none⟩ = some (.int .i64 b2) := fun x => x.cell ((Hb.out.cell (p := ⟨g, j * 6 + 4, none⟩) hg).trans (hc 4 _ rfl))
      have g5 : ∀ x : Later wr, x.w.cell? ⟨g, j * 6 + 5, none⟩ = some (.int .i64 c2) := fun x => x.cell ((Hb.out.cell (p := ⟨g, j * 6 + 5, none⟩) hg).trans (hc 5 _ rfl))
      have f0 : ∀ x : Later wr, x.w.cell? ⟨w.heap.size, 0, none⟩ = some (.int .i64 k) := fun x => D0.out ⟨x.w, Hb.out.trans (x.below.mono Hb.out.size)⟩
      have f1 : ∀ x : Later wr, x.w.cell? ⟨w.heap.size, 1, none⟩ = some (.string s) := fun x => D1.out ⟨x.w, Hb.out.trans (x.below.mono Hb.out.size)⟩
      have f2 : ∀ x : Later wr, x.w.cell? ⟨w.heap.size, 2, none⟩ = some (.int .u64 n) := fun x => D2.out ⟨x.w, Hb.out.trans (x.below.mono Hb.out.size)⟩
      have f3 : ∀ x : Later wr, x.w.cell? ⟨w.heap.size, 3, none⟩ = some (.int .i64 a1) := fun x => D3.out ⟨x.w, Hb.out.trans (x.below.mono Hb.out.size)⟩
      have f4 : ∀ x : Later wr, x.w.cell? ⟨w.heap.size, 4, none⟩ = some (.int .i64 b1) := fun x => D4.out ⟨x.w, Hb.out.trans (x.below.mono Hb.out.size)⟩
      have f5 : ∀ x : Later wr, x.w.cell? ⟨w.heap.size, 5, none⟩ = some (.int .i64 c1) := fun x => D5.out ⟨x.w, Hb.out.trans (x.below.mono Hb.out.size)⟩
      have hj0 : (0 : Int) ≤ (j : Int) := by omega
      have hj1 : (j : Int) < (L.length : Int) := by omega
      have hd1 : decide ((j : Int) < (L.length : Int)) = true := by simp; omega
      have hd2 : decide (j < L.length) = true := by simp; omega
      have heq : ∀ w : World, (binOp .eql 114 (.agg #[.int .i64 k', .string s', .int .u64 n', .int .i64 a2, .int .i64 b2, .int .i64 c2]) (.agg #[.int .i64 k, .string s, .int .u64 n, .int .i64 a1, .int .i64 b1, .int .i64 c1])).run Try.prog w = .ok (.bool false) w := fun w => by
        have := reql_T ⟨k', s', n', a2, b2, c2⟩ ⟨k, s, n, a1, b1, c1⟩ w
        rw [decide_eq_false hu] at this
        exact this
      clear hu hc hg
      go_wp2_with fail
      refine wp_region_calm (by kernel_rfl) (by kernel_rfl) ?_
      repeat (go_big_quiet_step (fail))
      refine wpQuiet_nil ?_
      intro w3 hw3
      obtain ⟨⟨w3, hb3⟩, rfl⟩ := hw3
      clear e0 r0 g0 g1 g2 g3 g4 g5 f0 f1 f2 f3 f4 f5 heq
      go_wp2_with fail
      go_roundw
      case rel => exact ⟨j + 1, by omega, by go_num, hid (Hb.out.trans (hb3.mono Hb.out.size))⟩
      case measure => simp [intOf]; omega

set_option maxRecDepth 100000 in
set_option maxHeartbeats 4000000 in
theorem rput_full {b : Nat} {L : List T} {m : Int} {a : Option Addr} {cap : Nat} (k : Int) (s : ByteArray) (n a1 b1 c1 : Int) {w : World} (h : RStoAt w b L m a cap) (hm : T.may L.length ⟨k, s, n, a1, b1, c1⟩) (hi : find ⟨k, s, n, a1, b1, c1⟩ L = none) (hfull : m ≤ L.length) :
    Calls Try.prog 52 #[.pointer (some ⟨b, 0, none⟩), T.val ⟨k, s, n, a1, b1, c1⟩] w fun e w' => e = .returned (.tuple #[.int .i64 0, .int .i64 4]) ∧ Below w.heap.size w w' := by
  have Hi := hid hi
  have hl : L.length ≤ 1048576 := by have := h.ok.m1; have := h.ok.len; omega
  clear hi
  have Hq : Hid (∀ w', RStoAt w' b L m a cap → Calls Try.prog 78 #[.pointer (some ⟨b, 0, none⟩), .agg #[.int .i64 k, .string s, .int .u64 n, .int .i64 a1, .int .i64 b1, .int .i64 c1]] w' fun e w'' => e = .returned (.bool true) ∧ Below w'.heap.size w' w'') := hid fun w' h' => by
    have hq := rmay_calls k s n a1 b1 c1 h'
    rw [decide_eq_true hm] at hq
    exact hq
  have Hs : Hid (∀ o, RStoAt (w.alloc o) b L m a cap) := hid fun o => h.later ((Below.refl _ _).alloc (Nat.le_refl _) _)
  clear h hm
  simp only [T.val]
  go_enter Try.func52, Try.ntmps52
  go_wp2_with fail
  refine (Hq.out _ (Hs.out _)).mono ?_
  rintro e w1 ⟨rfl, hb1⟩
  have hs1 := (Hs.out _).later hb1
  have hbox : w1.heap[w.heap.size]? = some (.cells #[.int .i64 k, .string s, .int .u64 n, .int .i64 a1, .int .i64 b1, .int .i64 c1] 114) := by rw [hb1.block _ (by simp)]; exact heap_at rfl
  have hbw : Below w.heap.size w w1 := ((Below.refl _ _).alloc (Nat.le_refl _) _).trans (hb1.mono (by simp <;> omega))
  clear hb1
  have d0 : ∀ x : Later w1, x.w.cell? ⟨w.heap.size, 0, none⟩ = some (.int .i64 k) := fun x => x.cell (by rw [cell_of_heap hbox]; rfl)
  have d1 : ∀ x : Later w1, x.w.cell? ⟨w.heap.size, 1, none⟩ = some (.string s) := fun x => x.cell (by rw [cell_of_heap hbox]; rfl)
  have d2 : ∀ x : Later w1, x.w.cell? ⟨w.heap.size, 2, none⟩ = some (.int .u64 n) := fun x => x.cell (by rw [cell_of_heap hbox]; rfl)
  have d3 : ∀ x : Later w1, x.w.cell? ⟨w.heap.size, 3, none⟩ = some (.int .i64 a1) := fun x => x.cell (by rw [cell_of_heap hbox]; rfl)
  have d4 : ∀ x : Later w1, x.w.cell? ⟨w.heap.size, 4, none⟩ = some (.int .i64 b1) := fun x => x.cell (by rw [cell_of_heap hbox]; rfl)
  have d5 : ∀ x : Later w1, x.w.cell? ⟨w.heap.size, 5, none⟩ = some (.int .i64 c1) := fun x => x.cell (by rw [cell_of_heap hbox]; rfl)
  have D0 := hid d0
  have D1 := hid d1
  have D2 := hid d2
  have D3 := hid d3
  have D4 := hid d4
  have D5 := hid d5
  have Hs1 := hid hs1
  have Hbox := hid hbox
  have Hbw := hid hbw
  clear hbox hbw hs1 d0 d1 d2 d3 d4 d5
  go_wp2_with fail
  go_loopw [6] (fun i6 wr => ∃ j : Nat, j ≤ L.length ∧ i6 = .int .i64 j ∧ Hid (Below w1.heap.size w1 wr)) (fun i6 _ => L.length - (intOf i6).toNat)
  case atStart => exact ⟨0, Nat.zero_le _, rfl, hid (Below.refl _ _)⟩
  case round =>
    obtain ⟨j, hj, rfl, Hb⟩ := hrel
    by_cases hlt : j < L.length
    · obtain ⟨t, ht⟩ : ∃ t, L[j]? = some t := ⟨L[j]'(by omega), List.getElem?_eq_getElem _⟩
      have hu : t ≠ ⟨k, s, n, a1, b1, c1⟩ := fun e => find_none.1 Hi.out (by rw [← e]; exact List.mem_of_getElem? ht)
      obtain ⟨k', s', n', a2, b2, c2⟩ := t
      obtain ⟨g, rfl, hg, hc⟩ := Hs1.out.cl j ⟨k', s', n', a2, b2, c2⟩ ht
      have e0 : ∀ x : Later wr, x.w.cell? ⟨b, 0, none⟩ = some (.slice (some ⟨g, 0, none⟩) L.length cap) := fun x => x.cell ((Hb.out.cell (p := ⟨b, 0, none⟩) Hs1.out.lt).trans Hs1.out.c0)
      have r0 : wr.cell? ⟨b, 0, none⟩ = some (.slice (some ⟨g, 0, none⟩) L.length cap) := (Hb.out.cell (p := ⟨b, 0, none⟩) Hs1.out.lt).trans Hs1.out.c0
      have g0 : ∀ x : Later wr, x.w.cell? ⟨g, j * 6, none⟩ = some (.int .i64 k') := fun x => x.cell ((Hb.out.cell (p := ⟨g, j * 6 + 0, none⟩) hg).trans (hc 0 _ rfl))
      have g1 : ∀ x : Later wr, x.w.cell? ⟨g, j * 6 + 1, none⟩ = some (.string s') := fun x => x.cell ((Hb.out.cell (p := ⟨g, j * 6 + 1, none⟩) hg).trans (hc 1 _ rfl))
      have g2 : ∀ x : Later wr, x.w.cell? ⟨g, j * 6 + 2, none⟩ = some (.int .u64 n') := fun x => x.cell ((Hb.out.cell (p := ⟨g, j * 6 + 2, none⟩) hg).trans (hc 2 _ rfl))
      have g3 : ∀ x : Later wr, x.w.cell? ⟨g, j * 6 + 3, none⟩ = some (.int .i64 a2) := fun x => x.cell ((Hb.out.cell (p := ⟨g, j * 6 + 3, none⟩) hg).trans (hc 3 _ rfl))
      have g4 : ∀ x : Later wr, x.w.cell? ⟨g, j * 6 + 4, none⟩ = some (.int .i64 b2) := fun x => x.cell ((Hb.out.cell (p := ⟨g, j * 6 + 4, none⟩) hg).trans (hc 4 _ rfl))
      have g5 : ∀ x : Later wr, x.w.cell? ⟨g, j * 6 + 5, none⟩ = some (.int .i64 c2) := fun x => x.cell ((Hb.out.cell (p := ⟨g, j * 6 + 5, none⟩) hg).trans (hc 5 _ rfl))
      have f0 : ∀ x : Later wr, x.w.cell? ⟨w.heap.size, 0, none⟩ = some (.int .i64 k) := fun x => D0.out ⟨x.w, Hb.out.trans (x.below.mono Hb.out.size)⟩
      have f1 : ∀ x : Later wr, x.w.cell? ⟨w.heap.size, 1, none⟩ = some (.string s) := fun x => D1.out ⟨x.w, Hb.out.trans (x.below.mono Hb.out.size)⟩
      have f2 : ∀ x : Later wr, x.w.cell? ⟨w.heap.size, 2, none⟩ = some (.int .u64 n) := fun x => D2.out ⟨x.w, Hb.out.trans (x.below.mono Hb.out.size)⟩
      have f3 : ∀ x : Later wr, x.w.cell? ⟨w.heap.size, 3, none⟩ = some (.int .i64 a1) := fun x => D3.out ⟨x.w, Hb.out.trans (x.below.mono Hb.out.size)⟩
      have f4 : ∀ x : Later wr, x.w.cell? ⟨w.heap.size, 4, none⟩ = some (.int .i64 b1) := fun x => D4.out ⟨x.w, Hb.out.trans (x.below.mono Hb.out.size)⟩
      have f5 : ∀ x : Later wr, x.w.cell? ⟨w.heap.size, 5, none⟩ = some (.int .i64 c1) := fun x => D5.out ⟨x.w, Hb.out.trans (x.below.mono Hb.out.size)⟩
      have hj0 : (0 : Int) ≤ (j : Int) := by omega
      have hj1 : (j : Int) < (L.length : Int) := by omega
      have hd1 : decide ((j : Int) < (L.length : Int)) = true := by simp; omega
      have hd2 : decide (j < L.length) = true := by simp; omega
      have heq : ∀ w : World, (binOp .eql 114 (.agg #[.int .i64 k', .string s', .int .u64 n', .int .i64 a2, .int .i64 b2, .int .i64 c2]) (.agg #[.int .i64 k, .string s, .int .u64 n, .int .i64 a1, .int .i64 b1, .int .i64 c1])).run Try.prog w = .ok (.bool false) w := fun w => by
        have := reql_T ⟨k', s', n', a2, b2, c2⟩ ⟨k, s, n, a1, b1, c1⟩ w
        rw [decide_eq_false hu] at this
        exact this
      clear hu hc hg
      go_wp2_with fail
      refine wp_region_calm (by kernel_rfl) (by kernel_rfl) ?_
      repeat (go_big_quiet_step (fail))
      refine wpQuiet_nil ?_
      intro w3 hw3
      obtain ⟨⟨w3, hb3⟩, rfl⟩ := hw3
      clear e0 r0 g0 g1 g2 g3 g4 g5 f0 f1 f2 f3 f4 f5 heq
      go_wp2_with fail
      go_roundw
      case rel => exact ⟨j + 1, by omega, by go_num, hid (Hb.out.trans (hb3.mono Hb.out.size))⟩
      case measure => simp [intOf]; omega
    · obtain rfl : j = L.length := by omega
      have r0 : wr.cell? ⟨b, 0, none⟩ = some (.slice a L.length cap) := (Hb.out.cell (p := ⟨b, 0, none⟩) Hs1.out.lt).trans Hs1.out.c0
      have e0 : ∀ x : Later wr, x.w.cell? ⟨b, 0, none⟩ = some (.slice a L.length cap) := fun x => x.cell r0
      have e1 : ∀ x : Later wr, x.w.cell? ⟨b, 1, none⟩ = some (.int .i64 m) := fun x => x.cell ((Hb.out.cell (p := ⟨b, 1, none⟩) Hs1.out.lt).trans Hs1.out.c1)
      have hd : decide (m ≤ (L.length : Int)) = true := by simpa using hfull
      clear hfull hlt hj
      go_wp2_with fail
      refine wp_region_calm (by kernel_rfl) (by kernel_rfl) ?_
      repeat (go_big_quiet_step (fail))
      refine wpQuiet_nil ?_
      intro w3 hw3
      obtain ⟨⟨w3, hb3⟩, rfl⟩ := hw3
      clear e0 r0 e1
      go_wp2_with fail
      go_ret2
      exact ⟨rfl, Hbw.out.trans ((Hb.out.trans (hb3.mono Hb.out.size)).mono Hbw.out.size)⟩
end Go.Proofs.Ytpcfmafokkffgaa
