/-
  Walks through the ways in which terms are made: one, both, seal, open, share, wrap, kem, none, text. For every mind and every term whose parts are names.
-/
import Derived.Test.YtbaliaodioflfaaKnowM
namespace Go.Proofs.Ytbaliaodioflfaa
open Go.RowKit

set_option maxRecDepth 100000 in
set_option maxHeartbeats 2000000 in
theorem one_m (k : Int) (s : ByteArray) (n a b c : Int) {w : World} {hb lb cb pb kb mb N : Nat} {L : List T} {dh kem : Bool} {cs : List Bool} (h : MindAt w hb lb cb pb kb mb N L dh kem cs) (ra0 : 0 ≤ a) (ra : a ≤ L.length) :
    Calls Try.prog 112 #[.pointer (some ⟨hb, 0, none⟩), .agg #[.int .i64 k, .string s, .int .u64 n, .int .i64 a, .int .i64 b, .int .i64 c]] w fun e w' => e = .returned (.bool (on cs a)) ∧ Below w.heap.size w w' := by
  obtain ⟨a, rfl⟩ : ∃ i : Nat, a = i := ⟨a.toNat, by omega⟩
  have za : (0 : Int) ≤ (a : Int) := by omega
  have ya : (a : Int) < (N : Int) := by have := h.hN; omega
  have xa : a < N := by omega
  clear ra0 ra
  obtain ⟨pa, hq⟩ : ∃ zz, on cs (a : Int) = zz := ⟨_, rfl⟩
  rw [hq]
  have Epa := hid hq
  clear hq
  go_enter Try.func112, Try.ntmps112
  go_wp2_with fail
  obtain ⟨w2, hw2⟩ : ∃ w2, w2 = w.alloc (.cells #[.int .i64 k, .string s, .int .u64 n, .int .i64 a, .int .i64 b, .int .i64 c] 76 (0, 0)) := ⟨_, rfl⟩
  have hbox : w2.heap[w.heap.size]? = some (.cells #[.int .i64 k, .string s, .int .u64 n, .int .i64 a, .int .i64 b, .int .i64 c] 76 (0, 0)) := by rw [hw2]; exact heap_at rfl
  have hbw : Below w.heap.size w w2 := by rw [hw2]; exact (Below.refl _ _).alloc (Nat.le_refl _) _
  have h2 := h.later hbw
  have hS := hbw.size
  rw [← hw2]
  clear hw2 h
  generalize hB : w.heap.size = B at *
  have d3 : ∀ x : Later w2, x.w.cell? ⟨B, 3, none⟩ = some (.int .i64 a) := fun x => x.cell (by rw [cell_of_heap hbox]; rfl)
  have k1 : ∀ x : Later w2, x.w.cell? ⟨hb, 1, none⟩ = some (.slice (some ⟨cb, 0, none⟩) N N) := fun x => x.cell h2.h1
  have ca : ∀ x : Later w2, x.w.cell? ⟨cb, a, none⟩ = some (.bool pa) := fun x => x.cell (by rw [← Epa.out]; exact h2.cc a xa)
  clear h2 hbox
  refine wp_region_calm (by kernel_rfl) (by kernel_rfl) ?_
  repeat (go_big_quiet_step (fail))
  refine wpQuiet_nil ?_
  intro w3 hw3
  obtain ⟨⟨w3, hb3⟩, rfl⟩ := hw3
  clear d3 k1 ca
  go_wp2_with fail
  go_ret
  exact ⟨rfl, by rw [hB]; exact hbw.trans (hb3.mono hS)⟩

set_option maxRecDepth 100000 in
set_option maxHeartbeats 2000000 in
theorem both_m (k : Int) (s : ByteArray) (n a b c : Int) {w : World} {hb lb cb pb kb mb N : Nat} {L : List T} {dh kem : Bool} {cs : List Bool} (h : MindAt w hb lb cb pb kb mb N L dh kem cs) (ra0 : 0 ≤ a) (ra : a ≤ L.length) (rb0 : 0 ≤ b) (rb : b ≤ L.length) :
    Calls Try.prog 116 #[.pointer (some ⟨hb, 0, none⟩), .agg #[.int .i64 k, .string s, .int .u64 n, .int .i64 a, .int .i64 b, .int .i64 c]] w fun e w' => e = .returned (.bool (on cs a && on cs b)) ∧ Below w.heap.size w w' := by
  obtain ⟨a, rfl⟩ : ∃ i : Nat, a = i := ⟨a.toNat, by omega⟩
  obtain ⟨b, rfl⟩ : ∃ i : Nat, b = i := ⟨b.toNat, by omega⟩
  have za : (0 : Int) ≤ (a : Int) := by omega
  have ya : (a : Int) < (N : Int) := by have := h.hN; omega
  have xa : a < N := by omega
  clear ra0 ra
  have zb : (0 : Int) ≤ (b : Int) := by omega
  have yb : (b : Int) < (N : Int) := by have := h.hN; omega
  have xb : b < N := by omega
  clear rb0 rb
  obtain ⟨pa, hq⟩ : ∃ zz, on cs (a : Int) = zz := ⟨_, rfl⟩
  rw [hq]
  have Epa := hid hq
  clear hq
  obtain ⟨qb, hq⟩ : ∃ zz, on cs (b : Int) = zz := ⟨_, rfl⟩
  rw [hq]
  have Eqb := hid hq
  clear hq
  go_enter Try.func116, Try.ntmps116
  go_wp2_with fail
  obtain ⟨w2, hw2⟩ : ∃ w2, w2 = w.alloc (.cells #[.int .i64 k, .string s, .int .u64 n, .int .i64 a, .int .i64 b, .int .i64 c] 76 (0, 0)) := ⟨_, rfl⟩
  have hbox : w2.heap[w.heap.size]? = some (.cells #[.int .i64 k, .string s, .int .u64 n, .int .i64 a, .int .i64 b, .int .i64 c] 76 (0, 0)) := by rw [hw2]; exact heap_at rfl
  have hbw : Below w.heap.size w w2 := by rw [hw2]; exact (Below.refl _ _).alloc (Nat.le_refl _) _
  have h2 := h.later hbw
  have hS := hbw.size
  rw [← hw2]
  clear hw2 h
  generalize hB : w.heap.size = B at *
  have d3 : ∀ x : Later w2, x.w.cell? ⟨B, 3, none⟩ = some (.int .i64 a) := fun x => x.cell (by rw [cell_of_heap hbox]; rfl)
  have d4 : ∀ x : Later w2, x.w.cell? ⟨B, 4, none⟩ = some (.int .i64 b) := fun x => x.cell (by rw [cell_of_heap hbox]; rfl)
  have k1 : ∀ x : Later w2, x.w.cell? ⟨hb, 1, none⟩ = some (.slice (some ⟨cb, 0, none⟩) N N) := fun x => x.cell h2.h1
  have ca : ∀ x : Later w2, x.w.cell? ⟨cb, a, none⟩ = some (.bool pa) := fun x => x.cell (by rw [← Epa.out]; exact h2.cc a xa)
  have cB : ∀ x : Later w2, x.w.cell? ⟨cb, b, none⟩ = some (.bool qb) := fun x => x.cell (by rw [← Eqb.out]; exact h2.cc b xb)
  clear h2 hbox
  cases pa
  · refine wp_region_calm (by kernel_rfl) (by kernel_rfl) ?_
    repeat (go_big_quiet_step (fail))
    refine wpQuiet_nil ?_
    intro w3 hw3
    obtain ⟨⟨w3, hb3⟩, rfl⟩ := hw3
    clear d3 d4 k1 ca cB
    go_wp2_with fail
    go_ret
    exact ⟨by simp, by rw [hB]; exact hbw.trans (hb3.mono hS)⟩
  · refine wp_region_calm (by kernel_rfl) (by kernel_rfl) ?_
    repeat (go_big_quiet_step (fail))
    refine wpQuiet_nil ?_
    intro w3 hw3
    obtain ⟨⟨w3, hb3⟩, rfl⟩ := hw3
    clear d3 d4 k1 ca cB
    go_wp2_with fail
    go_ret
    exact ⟨by simp, by rw [hB]; exact hbw.trans (hb3.mono hS)⟩

set_option maxRecDepth 100000 in
set_option maxHeartbeats 2000000 in
theorem open_m (a : Int) {w : World} {hb lb cb pb kb mb N : Nat} {L : List T} {dh kem : Bool} {cs : List Bool} (h : MindAt w hb lb cb pb kb mb N L dh kem cs) (ra0 : 0 ≤ a) (ra : a ≤ L.length) :
    Calls Try.prog 120 #[.pointer (some ⟨hb, 0, none⟩), .int .i64 a] w fun e w' => e = .returned (.bool (on cs a || on cs (nm L (pubT a)))) ∧ Below w.heap.size w w' := by
  obtain ⟨a, rfl⟩ : ∃ i : Nat, a = i := ⟨a.toNat, by omega⟩
  have za : (0 : Int) ≤ (a : Int) := by omega
  have ya : (a : Int) < (N : Int) := by have := h.hN; omega
  have xa : a < N := by omega
  clear ra0 ra
  obtain ⟨p, P, G, C⟩ := h.pub a xa
  have HG := hid G
  clear G
  rw [HG.out]
  obtain ⟨pa, hq⟩ : ∃ zz, on cs (a : Int) = zz := ⟨_, rfl⟩
  rw [hq]
  have Epa := hid hq
  clear hq
  obtain ⟨qa, hq⟩ : ∃ zz, on cs (p : Int) = zz := ⟨_, rfl⟩
  rw [hq]
  have Eqa := hid hq
  clear hq
  have zp : (0 : Int) ≤ (p : Int) := by omega
  have yp : (p : Int) < (N : Int) := by omega
  go_enter Try.func120, Try.ntmps120
  go_wp2_with fail
  have h2 := h
  clear h
  have k1 : ∀ x : Later w, x.w.cell? ⟨hb, 1, none⟩ = some (.slice (some ⟨cb, 0, none⟩) N N) := fun x => x.cell h2.h1
  have k2 : ∀ x : Later w, x.w.cell? ⟨hb, 2, none⟩ = some (.slice (some ⟨pb, 0, none⟩) N N) := fun x => x.cell h2.h2
  have ca : ∀ x : Later w, x.w.cell? ⟨cb, a, none⟩ = some (.bool pa) := fun x => x.cell (by rw [← Epa.out]; exact h2.cc a xa)
  have cp : ∀ x : Later w, x.w.cell? ⟨pb, a, none⟩ = some (.int .i64 p) := fun x => x.cell (by exact C)
  have cq : ∀ x : Later w, x.w.cell? ⟨cb, p, none⟩ = some (.bool qa) := fun x => x.cell (by rw [← Eqa.out]; exact h2.cc p P)
  clear h2 C
  cases pa
  · refine wp_region_calm (by kernel_rfl) (by kernel_rfl) ?_
    repeat (go_big_quiet_step (fail))
    refine wpQuiet_nil ?_
    intro w3 hw3
    obtain ⟨⟨w3, hb3⟩, rfl⟩ := hw3
    clear k1 k2 ca cp cq
    go_wp2_with fail
    go_ret
    exact ⟨by simp, hb3⟩
  · refine wp_region_calm (by kernel_rfl) (by kernel_rfl) ?_
    repeat (go_big_quiet_step (fail))
    refine wpQuiet_nil ?_
    intro w3 hw3
    obtain ⟨⟨w3, hb3⟩, rfl⟩ := hw3
    clear k1 k2 ca cp cq
    go_wp2_with fail
    go_ret
    exact ⟨by simp, hb3⟩

set_option maxRecDepth 100000 in
set_option maxHeartbeats 2000000 in
theorem wrap_m (k : Int) (s : ByteArray) (n a b c : Int) {w : World} {hb lb cb pb kb mb N : Nat} {L : List T} {dh kem : Bool} {cs : List Bool} (h : MindAt w hb lb cb pb kb mb N L dh kem cs) (ra0 : 0 ≤ a) (ra : a ≤ L.length) (rb0 : 0 ≤ b) (rb : b ≤ L.length) :
    Calls Try.prog 114 #[.pointer (some ⟨hb, 0, none⟩), .agg #[.int .i64 k, .string s, .int .u64 n, .int .i64 a, .int .i64 b, .int .i64 c]] w fun e w' => e = .returned (.bool (on cs b && (on cs a || on cs (nm L (kpuT a))))) ∧ Below w.heap.size w w' := by
  obtain ⟨a, rfl⟩ : ∃ i : Nat, a = i := ⟨a.toNat, by omega⟩
  obtain ⟨b, rfl⟩ : ∃ i : Nat, b = i := ⟨b.toNat, by omega⟩
  have za : (0 : Int) ≤ (a : Int) := by omega
  have ya : (a : Int) < (N : Int) := by have := h.hN; omega
  have xa : a < N := by omega
  clear ra0 ra
  have zb : (0 : Int) ≤ (b : Int) := by omega
  have yb : (b : Int) < (N : Int) := by have := h.hN; omega
  have xb : b < N := by omega
  clear rb0 rb
  obtain ⟨p, P, G, C⟩ := h.kpu a xa
  have HG := hid G
  clear G
  rw [HG.out]
  obtain ⟨pa, hq⟩ : ∃ zz, on cs (a : Int) = zz := ⟨_, rfl⟩
  rw [hq]
  have Epa := hid hq
  clear hq
  obtain ⟨qb, hq⟩ : ∃ zz, on cs (b : Int) = zz := ⟨_, rfl⟩
  rw [hq]
  have Eqb := hid hq
  clear hq
  obtain ⟨qa, hq⟩ : ∃ zz, on cs (p : Int) = zz := ⟨_, rfl⟩
  rw [hq]
  have Eqa := hid hq
  clear hq
  have zp : (0 : Int) ≤ (p : Int) := by omega
  have yp : (p : Int) < (N : Int) := by omega
  go_enter Try.func114, Try.ntmps114
  go_wp2_with fail
  obtain ⟨w2, hw2⟩ : ∃ w2, w2 = w.alloc (.cells #[.int .i64 k, .string s, .int .u64 n, .int .i64 a, .int .i64 b, .int .i64 c] 76 (0, 0)) := ⟨_, rfl⟩
  have hbox : w2.heap[w.heap.size]? = some (.cells #[.int .i64 k, .string s, .int .u64 n, .int .i64 a, .int .i64 b, .int .i64 c] 76 (0, 0)) := by rw [hw2]; exact heap_at rfl
  have hbw : Below w.heap.size w w2 := by rw [hw2]; exact (Below.refl _ _).alloc (Nat.le_refl _) _
  have h2 := h.later hbw
  have hS := hbw.size
  rw [← hw2]
  clear hw2 h C
  generalize hB : w.heap.size = B at *
  have C := h2.ck a xa
  rw [HG.out] at C
  have d3 : ∀ x : Later w2, x.w.cell? ⟨B, 3, none⟩ = some (.int .i64 a) := fun x => x.cell (by rw [cell_of_heap hbox]; rfl)
  have d4 : ∀ x : Later w2, x.w.cell? ⟨B, 4, none⟩ = some (.int .i64 b) := fun x => x.cell (by rw [cell_of_heap hbox]; rfl)
  have k1 : ∀ x : Later w2, x.w.cell? ⟨hb, 1, none⟩ = some (.slice (some ⟨cb, 0, none⟩) N N) := fun x => x.cell h2.h1
  have k3 : ∀ x : Later w2, x.w.cell? ⟨hb, 3, none⟩ = some (.slice (some ⟨kb, 0, none⟩) N N) := fun x => x.cell h2.h3
  have ca : ∀ x : Later w2, x.w.cell? ⟨cb, a, none⟩ = some (.bool pa) := fun x => x.cell (by rw [← Epa.out]; exact h2.cc a xa)
  have cB : ∀ x : Later w2, x.w.cell? ⟨cb, b, none⟩ = some (.bool qb) := fun x => x.cell (by rw [← Eqb.out]; exact h2.cc b xb)
  have cp : ∀ x : Later w2, x.w.cell? ⟨kb, a, none⟩ = some (.int .i64 p) := fun x => x.cell (by exact C)
  have cq : ∀ x : Later w2, x.w.cell? ⟨cb, p, none⟩ = some (.bool qa) := fun x => x.cell (by rw [← Eqa.out]; exact h2.cc p P)
  clear h2 hbox C
  cases qb
  · refine wp_region_calm (by kernel_rfl) (by kernel_rfl) ?_
    repeat (go_big_quiet_step (fail))
    refine wpQuiet_nil ?_
    intro w3 hw3
    obtain ⟨⟨w3, hb3⟩, rfl⟩ := hw3
    clear d3 d4 k1 k3 ca cB cp cq
    go_wp2_with fail
    go_ret
    exact ⟨by simp, by rw [hB]; exact hbw.trans (hb3.mono hS)⟩
  · cases pa
    · refine wp_region_calm (by kernel_rfl) (by kernel_rfl) ?_
      repeat (go_big_quiet_step (fail))
      refine wpQuiet_nil ?_
      intro w3 hw3
      obtain ⟨⟨w3, hb3⟩, rfl⟩ := hw3
      clear d3 d4 k1 k3 ca cB cp cq
      go_wp2_with fail
      go_ret
      exact ⟨by simp, by rw [hB]; exact hbw.trans (hb3.mono hS)⟩
    · refine wp_region_calm (by kernel_rfl) (by kernel_rfl) ?_
      repeat (go_big_quiet_step (fail))
      refine wpQuiet_nil ?_
      intro w3 hw3
      obtain ⟨⟨w3, hb3⟩, rfl⟩ := hw3
      clear d3 d4 k1 k3 ca cB cp cq
      go_wp2_with fail
      go_ret
      exact ⟨by simp, by rw [hB]; exact hbw.trans (hb3.mono hS)⟩

set_option maxHeartbeats 400000 in
theorem none_m (v : Value) (k : Int) (s : ByteArray) (n a b c : Int) (w : World) : Calls Try.prog 110 #[v, .agg #[.int .i64 k, .string s, .int .u64 n, .int .i64 a, .int .i64 b, .int .i64 c]] w fun e w' => e = .returned (.bool false) ∧ Below w.heap.size w w' := by
  go_enter Try.func110, Try.ntmps110
  go_wp2_with fail
  go_ret
  exact ⟨rfl, by first | exact Below.refl _ _ | exact (Below.refl _ _).alloc (Nat.le_refl _) _⟩

set_option maxHeartbeats 400000 in
theorem text_m (v : Value) (k : Int) (s : ByteArray) (n a b c : Int) (w : World) : Calls Try.prog 111 #[v, .agg #[.int .i64 k, .string s, .int .u64 n, .int .i64 a, .int .i64 b, .int .i64 c]] w fun e w' => e = .returned (.bool true) ∧ Below w.heap.size w w' := by
  go_enter Try.func111, Try.ntmps111
  go_wp2_with fail
  go_ret
  exact ⟨rfl, by first | exact Below.refl _ _ | exact (Below.refl _ _).alloc (Nat.le_refl _) _⟩

set_option maxRecDepth 100000 in
set_option maxHeartbeats 2000000 in
theorem seal_m (k : Int) (s : ByteArray) (n a b c : Int) {w : World} {hb lb cb pb kb mb N : Nat} {L : List T} {dh kem : Bool} {cs : List Bool} (h : MindAt w hb lb cb pb kb mb N L dh kem cs) (ra0 : 0 ≤ a) (ra : a ≤ L.length) (rb0 : 0 ≤ b) (rb : b ≤ L.length) (rc0 : 0 ≤ c) (rc : c ≤ L.length) :
    Calls Try.prog 117 #[.pointer (some ⟨hb, 0, none⟩), .agg #[.int .i64 k, .string s, .int .u64 n, .int .i64 a, .int .i64 b, .int .i64 c]] w fun e w' => e = .returned (.bool ((on cs a && on cs b) && on cs c)) ∧ Below w.heap.size w w' := by
  obtain ⟨a, rfl⟩ : ∃ i : Nat, a = i := ⟨a.toNat, by omega⟩
  obtain ⟨b, rfl⟩ : ∃ i : Nat, b = i := ⟨b.toNat, by omega⟩
  obtain ⟨c, rfl⟩ : ∃ i : Nat, c = i := ⟨c.toNat, by omega⟩
  have ha := ra
  have hb1 := rb
  have za : (0 : Int) ≤ (a : Int) := by omega
  have ya : (a : Int) < (N : Int) := by have := h.hN; omega
  have xa : a < N := by omega
  clear ra0 ra
  have zb : (0 : Int) ≤ (b : Int) := by omega
  have yb : (b : Int) < (N : Int) := by have := h.hN; omega
  have xb : b < N := by omega
  clear rb0 rb
  have zc : (0 : Int) ≤ (c : Int) := by omega
  have yc : (c : Int) < (N : Int) := by have := h.hN; omega
  have xc : c < N := by omega
  clear rc0 rc
  obtain ⟨pv, hq⟩ : ∃ zz, (on cs (a : Int) && on cs (b : Int)) = zz := ⟨_, rfl⟩
  rw [hq]
  have Epv := hid hq
  clear hq
  obtain ⟨pc, hq⟩ : ∃ zz, on cs (c : Int) = zz := ⟨_, rfl⟩
  rw [hq]
  have Epc := hid hq
  clear hq
  go_enter Try.func117, Try.ntmps117
  go_wp2_with fail
  obtain ⟨w2, hw2⟩ : ∃ w2, w2 = w.alloc (.cells #[.int .i64 k, .string s, .int .u64 n, .int .i64 a, .int .i64 b, .int .i64 c] 76 (0, 0)) := ⟨_, rfl⟩
  have hbox : w2.heap[w.heap.size]? = some (.cells #[.int .i64 k, .string s, .int .u64 n, .int .i64 a, .int .i64 b, .int .i64 c] 76 (0, 0)) := by rw [hw2]; exact heap_at rfl
  have hbw : Below w.heap.size w w2 := by rw [hw2]; exact (Below.refl _ _).alloc (Nat.le_refl _) _
  have h2 := h.later hbw
  have hS := hbw.size
  rw [← hw2]
  clear hw2 h
  generalize hB : w.heap.size = B at *
  have Hboth : Hid (∀ x : Later w2, Calls Try.prog 116 #[.pointer (some ⟨hb, 0, none⟩), .agg #[.int .i64 k, .string s, .int .u64 n, .int .i64 a, .int .i64 b, .int .i64 c]] x.w fun e w'' => e = .returned (.bool pv) ∧ ∃ y : Later w2, w'' = y.w) := hid fun x => by rw [← Epv.out]; exact Calls.calm (both_m k s n a b c (h2.later x.below) (by omega) ha (by omega) hb1)
  clear ha hb1
  have d0 : ∀ x : Later w2, x.w.cell? ⟨B, 0, none⟩ = some (.int .i64 k) := fun x => x.cell (by rw [cell_of_heap hbox]; rfl)
  have d1 : ∀ x : Later w2, x.w.cell? ⟨B, 1, none⟩ = some (.string s) := fun x => x.cell (by rw [cell_of_heap hbox]; rfl)
  have d2 : ∀ x : Later w2, x.w.cell? ⟨B, 2, none⟩ = some (.int .u64 n) := fun x => x.cell (by rw [cell_of_heap hbox]; rfl)
  have d3 : ∀ x : Later w2, x.w.cell? ⟨B, 3, none⟩ = some (.int .i64 a) := fun x => x.cell (by rw [cell_of_heap hbox]; rfl)
  have d4 : ∀ x : Later w2, x.w.cell? ⟨B, 4, none⟩ = some (.int .i64 b) := fun x => x.cell (by rw [cell_of_heap hbox]; rfl)
  have d5 : ∀ x : Later w2, x.w.cell? ⟨B, 5, none⟩ = some (.int .i64 c) := fun x => x.cell (by rw [cell_of_heap hbox]; rfl)
  have k1 : ∀ x : Later w2, x.w.cell? ⟨hb, 1, none⟩ = some (.slice (some ⟨cb, 0, none⟩) N N) := fun x => x.cell h2.h1
  have cC : ∀ x : Later w2, x.w.cell? ⟨cb, c, none⟩ = some (.bool pc) := fun x => x.cell (by rw [← Epc.out]; exact h2.cc c xc)
  clear h2 hbox
  cases pv
  · refine wp_region_calm (by kernel_rfl) (by kernel_rfl) ?_
    repeat (go_big_quiet_step ((go_at_call 116; exact Hboth.out _)))
    refine wpQuiet_nil ?_
    intro w3 hw3
    obtain ⟨⟨w3, hb3⟩, rfl⟩ := hw3
    clear d0 d1 d2 d3 d4 d5 k1 cC
    go_wp2_with fail
    go_ret
    exact ⟨by simp, by rw [hB]; exact hbw.trans (hb3.mono hS)⟩
  · refine wp_region_calm (by kernel_rfl) (by kernel_rfl) ?_
    repeat (go_big_quiet_step ((go_at_call 116; exact Hboth.out _)))
    refine wpQuiet_nil ?_
    intro w3 hw3
    obtain ⟨⟨w3, hb3⟩, rfl⟩ := hw3
    clear d0 d1 d2 d3 d4 d5 k1 cC
    go_wp2_with fail
    go_ret
    exact ⟨by simp, by rw [hB]; exact hbw.trans (hb3.mono hS)⟩

set_option maxRecDepth 100000 in
set_option maxHeartbeats 16000000 in
theorem share_m (k : Int) (s : ByteArray) (n a b c : Int) {w : World} {hb lb cb pb kb mb N : Nat} {L : List T} {dh kem : Bool} {cs : List Bool} (h : MindAt w hb lb cb pb kb mb N L dh kem cs) (ra0 : 0 ≤ a) (ra : a ≤ L.length) (rb0 : 0 ≤ b) (rb : b ≤ L.length) :
    Calls Try.prog 113 #[.pointer (some ⟨hb, 0, none⟩), .agg #[.int .i64 k, .string s, .int .u64 n, .int .i64 a, .int .i64 b, .int .i64 c]] w fun e w' => e = .returned (.bool ((on cs a && (on cs b || on cs (nm L (pubT b)))) || (on cs b && (on cs a || on cs (nm L (pubT a)))) || (dh && on cs (nm L (pubT a)) && on cs (nm L (pubT b))))) ∧ Below w.heap.size w w' := by
  obtain ⟨a, rfl⟩ : ∃ i : Nat, a = i := ⟨a.toNat, by omega⟩
  obtain ⟨b, rfl⟩ : ∃ i : Nat, b = i := ⟨b.toNat, by omega⟩
  have ha := ra
  have hb1 := rb
  have za : (0 : Int) ≤ (a : Int) := by omega
  have ya : (a : Int) < (N : Int) := by have := h.hN; omega
  have xa : a < N := by omega
  clear ra0 ra
  have zb : (0 : Int) ≤ (b : Int) := by omega
  have yb : (b : Int) < (N : Int) := by have := h.hN; omega
  have xb : b < N := by omega
  clear rb0 rb
  obtain ⟨ob, hq⟩ : ∃ zz, (on cs (b : Int) || on cs (nm L (pubT (b : Int)))) = zz := ⟨_, rfl⟩
  rw [hq]
  have Eob := hid hq
  clear hq
  obtain ⟨oa, hq⟩ : ∃ zz, (on cs (a : Int) || on cs (nm L (pubT (a : Int)))) = zz := ⟨_, rfl⟩
  rw [hq]
  have Eoa := hid hq
  clear hq
  obtain ⟨pa, hq⟩ : ∃ zz, on cs (a : Int) = zz := ⟨_, rfl⟩
  rw [hq]
  have Epa := hid hq
  clear hq
  obtain ⟨vb, hq⟩ : ∃ zz, on cs (b : Int) = zz := ⟨_, rfl⟩
  rw [hq]
  have Evb := hid hq
  clear hq
  obtain ⟨p, P, G, _⟩ := h.pub a xa
  obtain ⟨q, Q, G2, _⟩ := h.pub b xb
  have HG := hid G
  have HG2 := hid G2
  clear G G2
  rw [HG.out, HG2.out]
  obtain ⟨qa, hq⟩ : ∃ zz, on cs (p : Int) = zz := ⟨_, rfl⟩
  rw [hq]
  have Eqa := hid hq
  clear hq
  obtain ⟨qv, hq⟩ : ∃ zz, on cs (q : Int) = zz := ⟨_, rfl⟩
  rw [hq]
  have Eqv := hid hq
  clear hq
  have zp : (0 : Int) ≤ (p : Int) := by omega
  have yp : (p : Int) < (N : Int) := by omega
  have zq : (0 : Int) ≤ (q : Int) := by omega
  have yq : (q : Int) < (N : Int) := by omega
  go_enter Try.func113, Try.ntmps113
  go_wp2_with fail
  obtain ⟨w2, hw2⟩ : ∃ w2, w2 = w.alloc (.cells #[.int .i64 k, .string s, .int .u64 n, .int .i64 a, .int .i64 b, .int .i64 c] 76 (0, 0)) := ⟨_, rfl⟩
  have hbox : w2.heap[w.heap.size]? = some (.cells #[.int .i64 k, .string s, .int .u64 n, .int .i64 a, .int .i64 b, .int .i64 c] 76 (0, 0)) := by rw [hw2]; exact heap_at rfl
  have hbw : Below w.heap.size w w2 := by rw [hw2]; exact (Below.refl _ _).alloc (Nat.le_refl _) _
  have h2 := h.later hbw
  have hS := hbw.size
  rw [← hw2]
  clear hw2 h
  generalize hB : w.heap.size = B at *
  have Hob : Hid (∀ x : Later w2, Calls Try.prog 120 #[.pointer (some ⟨hb, 0, none⟩), .int .i64 b] x.w fun e w'' => e = .returned (.bool ob) ∧ ∃ y : Later w2, w'' = y.w) := hid fun x => by rw [← Eob.out]; exact Calls.calm (open_m b (h2.later x.below) (by omega) hb1)
  have Hoa : Hid (∀ x : Later w2, Calls Try.prog 120 #[.pointer (some ⟨hb, 0, none⟩), .int .i64 a] x.w fun e w'' => e = .returned (.bool oa) ∧ ∃ y : Later w2, w'' = y.w) := hid fun x => by rw [← Eoa.out]; exact Calls.calm (open_m a (h2.later x.below) (by omega) ha)
  clear ha hb1
  have H2 := hid h2
  have Hbx := hid hbox
  have d3 : ∀ x : Later w2, x.w.cell? ⟨B, 3, none⟩ = some (.int .i64 a) := fun x => x.cell (by rw [cell_of_heap hbox]; rfl)
  have d4 : ∀ x : Later w2, x.w.cell? ⟨B, 4, none⟩ = some (.int .i64 b) := fun x => x.cell (by rw [cell_of_heap hbox]; rfl)
  have k1 : ∀ x : Later w2, x.w.cell? ⟨hb, 1, none⟩ = some (.slice (some ⟨cb, 0, none⟩) N N) := fun x => x.cell h2.h1
  have ca : ∀ x : Later w2, x.w.cell? ⟨cb, a, none⟩ = some (.bool pa) := fun x => x.cell (by rw [← Epa.out]; exact h2.cc a xa)
  have cB : ∀ x : Later w2, x.w.cell? ⟨cb, b, none⟩ = some (.bool vb) := fun x => x.cell (by rw [← Evb.out]; exact h2.cc b xb)
  clear h2 hbox
  cases pa
  · cases vb
    · refine wp_region_calm (by kernel_rfl) (by kernel_rfl) ?_
      repeat (go_big_quiet_step ((first | (go_at_call 120; with_reducible exact Hob.out _) | (go_at_call 120; with_reducible exact Hoa.out _))))
      refine wpQuiet_nil ?_
      intro w3 hw3
      obtain ⟨⟨w3, hb3⟩, rfl⟩ := hw3
      clear d3 d4 k1 ca cB
      go_wp2_with fail
      have h3 := H2.out.later hb3
      have hbx3 := (hb3.block B (Array.getElem?_eq_some_iff.1 Hbx.out).1).trans Hbx.out
      have hS3 := hb3.size
      have d3 : ∀ x : Later w3, x.w.cell? ⟨B, 3, none⟩ = some (.int .i64 a) := fun x => x.cell (by rw [cell_of_heap hbx3]; rfl)
      have d4 : ∀ x : Later w3, x.w.cell? ⟨B, 4, none⟩ = some (.int .i64 b) := fun x => x.cell (by rw [cell_of_heap hbx3]; rfl)
      have k1 : ∀ x : Later w3, x.w.cell? ⟨hb, 1, none⟩ = some (.slice (some ⟨cb, 0, none⟩) N N) := fun x => x.cell h3.h1
      have k2 : ∀ x : Later w3, x.w.cell? ⟨hb, 2, none⟩ = some (.slice (some ⟨pb, 0, none⟩) N N) := fun x => x.cell h3.h2
      have k5 : ∀ x : Later w3, x.w.cell? ⟨hb, 5, none⟩ = some (.bool dh) := fun x => x.cell h3.h5
      have cp : ∀ x : Later w3, x.w.cell? ⟨pb, a, none⟩ = some (.int .i64 p) := fun x => x.cell (by rw [← HG.out]; exact h3.cp a xa)
      have cq : ∀ x : Later w3, x.w.cell? ⟨pb, b, none⟩ = some (.int .i64 q) := fun x => x.cell (by rw [← HG2.out]; exact h3.cp b xb)
      have ea : ∀ x : Later w3, x.w.cell? ⟨cb, p, none⟩ = some (.bool qa) := fun x => x.cell (by rw [← Eqa.out]; exact h3.cc p P)
      have eb : ∀ x : Later w3, x.w.cell? ⟨cb, q, none⟩ = some (.bool qv) := fun x => x.cell (by rw [← Eqv.out]; exact h3.cc q Q)
      clear h3 hbx3 Hbx H2
      cases dh
      · refine wp_region_calm (by kernel_rfl) (by kernel_rfl) ?_
        repeat (go_big_quiet_step (fail))
        refine wpQuiet_nil ?_
        intro w4 hw4
        obtain ⟨⟨w4, hb4⟩, rfl⟩ := hw4
        clear d3 d4 k1 k2 k5 cp cq ea eb
        go_wp2_with fail
        go_ret
        exact ⟨by simp, by rw [hB]; exact hbw.trans (hb3.mono hS |>.trans (hb4.mono (Nat.le_trans hS hS3)))⟩
      · cases qa
        · refine wp_region_calm (by kernel_rfl) (by kernel_rfl) ?_
          repeat (go_big_quiet_step (fail))
          refine wpQuiet_nil ?_
          intro w4 hw4
          obtain ⟨⟨w4, hb4⟩, rfl⟩ := hw4
          clear d3 d4 k1 k2 k5 cp cq ea eb
          go_wp2_with fail
          go_ret
          exact ⟨by simp, by rw [hB]; exact hbw.trans (hb3.mono hS |>.trans (hb4.mono (Nat.le_trans hS hS3)))⟩
        · refine wp_region_calm (by kernel_rfl) (by kernel_rfl) ?_
          repeat (go_big_quiet_step (fail))
          refine wpQuiet_nil ?_
          intro w4 hw4
          obtain ⟨⟨w4, hb4⟩, rfl⟩ := hw4
          clear d3 d4 k1 k2 k5 cp cq ea eb
          go_wp2_with fail
          go_ret
          exact ⟨by simp, by rw [hB]; exact hbw.trans (hb3.mono hS |>.trans (hb4.mono (Nat.le_trans hS hS3)))⟩
    · cases oa
      · refine wp_region_calm (by kernel_rfl) (by kernel_rfl) ?_
        repeat (go_big_quiet_step ((first | (go_at_call 120; with_reducible exact Hob.out _) | (go_at_call 120; with_reducible exact Hoa.out _))))
        refine wpQuiet_nil ?_
        intro w3 hw3
        obtain ⟨⟨w3, hb3⟩, rfl⟩ := hw3
        clear d3 d4 k1 ca cB
        go_wp2_with fail
        have h3 := H2.out.later hb3
        have hbx3 := (hb3.block B (Array.getElem?_eq_some_iff.1 Hbx.out).1).trans Hbx.out
        have hS3 := hb3.size
        have d3 : ∀ x : Later w3, x.w.cell? ⟨B, 3, none⟩ = some (.int .i64 a) := fun x => x.cell (by rw [cell_of_heap hbx3]; rfl)
        have d4 : ∀ x : Later w3, x.w.cell? ⟨B, 4, none⟩ = some (.int .i64 b) := fun x => x.cell (by rw [cell_of_heap hbx3]; rfl)
        have k1 : ∀ x : Later w3, x.w.cell? ⟨hb, 1, none⟩ = some (.slice (some ⟨cb, 0, none⟩) N N) := fun x => x.cell h3.h1
        have k2 : ∀ x : Later w3, x.w.cell? ⟨hb, 2, none⟩ = some (.slice (some ⟨pb, 0, none⟩) N N) := fun x => x.cell h3.h2
        have k5 : ∀ x : Later w3, x.w.cell? ⟨hb, 5, none⟩ = some (.bool dh) := fun x => x.cell h3.h5
        have cp : ∀ x : Later w3, x.w.cell? ⟨pb, a, none⟩ = some (.int .i64 p) := fun x => x.cell (by rw [← HG.out]; exact h3.cp a xa)
        have cq : ∀ x : Later w3, x.w.cell? ⟨pb, b, none⟩ = some (.int .i64 q) := fun x => x.cell (by rw [← HG2.out]; exact h3.cp b xb)
        have ea : ∀ x : Later w3, x.w.cell? ⟨cb, p, none⟩ = some (.bool qa) := fun x => x.cell (by rw [← Eqa.out]; exact h3.cc p P)
        have eb : ∀ x : Later w3, x.w.cell? ⟨cb, q, none⟩ = some (.bool qv) := fun x => x.cell (by rw [← Eqv.out]; exact h3.cc q Q)
        clear h3 hbx3 Hbx H2
        cases dh
        · refine wp_region_calm (by kernel_rfl) (by kernel_rfl) ?_
          repeat (go_big_quiet_step (fail))
          refine wpQuiet_nil ?_
          intro w4 hw4
          obtain ⟨⟨w4, hb4⟩, rfl⟩ := hw4
          clear d3 d4 k1 k2 k5 cp cq ea eb
          go_wp2_with fail
          go_ret
          exact ⟨by simp, by rw [hB]; exact hbw.trans (hb3.mono hS |>.trans (hb4.mono (Nat.le_trans hS hS3)))⟩
        · cases qa
          · refine wp_region_calm (by kernel_rfl) (by kernel_rfl) ?_
            repeat (go_big_quiet_step (fail))
            refine wpQuiet_nil ?_
            intro w4 hw4
            obtain ⟨⟨w4, hb4⟩, rfl⟩ := hw4
            clear d3 d4 k1 k2 k5 cp cq ea eb
            go_wp2_with fail
            go_ret
            exact ⟨by simp, by rw [hB]; exact hbw.trans (hb3.mono hS |>.trans (hb4.mono (Nat.le_trans hS hS3)))⟩
          · refine wp_region_calm (by kernel_rfl) (by kernel_rfl) ?_
            repeat (go_big_quiet_step (fail))
            refine wpQuiet_nil ?_
            intro w4 hw4
            obtain ⟨⟨w4, hb4⟩, rfl⟩ := hw4
            clear d3 d4 k1 k2 k5 cp cq ea eb
            go_wp2_with fail
            go_ret
            exact ⟨by simp, by rw [hB]; exact hbw.trans (hb3.mono hS |>.trans (hb4.mono (Nat.le_trans hS hS3)))⟩
      · refine wp_region_calm (by kernel_rfl) (by kernel_rfl) ?_
        repeat (go_big_quiet_step ((first | (go_at_call 120; with_reducible exact Hob.out _) | (go_at_call 120; with_reducible exact Hoa.out _))))
        refine wpQuiet_nil ?_
        intro w3 hw3
        obtain ⟨⟨w3, hb3⟩, rfl⟩ := hw3
        clear d3 d4 k1 ca cB
        go_wp2_with fail
        go_ret
        exact ⟨by simp, by rw [hB]; exact hbw.trans (hb3.mono hS)⟩
  · cases ob
    · cases vb
      · refine wp_region_calm (by kernel_rfl) (by kernel_rfl) ?_
        repeat (go_big_quiet_step ((first | (go_at_call 120; with_reducible exact Hob.out _) | (go_at_call 120; with_reducible exact Hoa.out _))))
        refine wpQuiet_nil ?_
        intro w3 hw3
        obtain ⟨⟨w3, hb3⟩, rfl⟩ := hw3
        clear d3 d4 k1 ca cB
        go_wp2_with fail
        have h3 := H2.out.later hb3
        have hbx3 := (hb3.block B (Array.getElem?_eq_some_iff.1 Hbx.out).1).trans Hbx.out
        have hS3 := hb3.size
        have d3 : ∀ x : Later w3, x.w.cell? ⟨B, 3, none⟩ = some (.int .i64 a) := fun x => x.cell (by rw [cell_of_heap hbx3]; rfl)
        have d4 : ∀ x : Later w3, x.w.cell? ⟨B, 4, none⟩ = some (.int .i64 b) := fun x => x.cell (by rw [cell_of_heap hbx3]; rfl)
        have k1 : ∀ x : Later w3, x.w.cell? ⟨hb, 1, none⟩ = some (.slice (some ⟨cb, 0, none⟩) N N) := fun x => x.cell h3.h1
        have k2 : ∀ x : Later w3, x.w.cell? ⟨hb, 2, none⟩ = some (.slice (some ⟨pb, 0, none⟩) N N) := fun x => x.cell h3.h2
        have k5 : ∀ x : Later w3, x.w.cell? ⟨hb, 5, none⟩ = some (.bool dh) := fun x => x.cell h3.h5
        have cp : ∀ x : Later w3, x.w.cell? ⟨pb, a, none⟩ = some (.int .i64 p) := fun x => x.cell (by rw [← HG.out]; exact h3.cp a xa)
        have cq : ∀ x : Later w3, x.w.cell? ⟨pb, b, none⟩ = some (.int .i64 q) := fun x => x.cell (by rw [← HG2.out]; exact h3.cp b xb)
        have ea : ∀ x : Later w3, x.w.cell? ⟨cb, p, none⟩ = some (.bool qa) := fun x => x.cell (by rw [← Eqa.out]; exact h3.cc p P)
        have eb : ∀ x : Later w3, x.w.cell? ⟨cb, q, none⟩ = some (.bool qv) := fun x => x.cell (by rw [← Eqv.out]; exact h3.cc q Q)
        clear h3 hbx3 Hbx H2
        cases dh
        · refine wp_region_calm (by kernel_rfl) (by kernel_rfl) ?_
          repeat (go_big_quiet_step (fail))
          refine wpQuiet_nil ?_
          intro w4 hw4
          obtain ⟨⟨w4, hb4⟩, rfl⟩ := hw4
          clear d3 d4 k1 k2 k5 cp cq ea eb
          go_wp2_with fail
          go_ret
          exact ⟨by simp, by rw [hB]; exact hbw.trans (hb3.mono hS |>.trans (hb4.mono (Nat.le_trans hS hS3)))⟩
        · cases qa
          · refine wp_region_calm (by kernel_rfl) (by kernel_rfl) ?_
            repeat (go_big_quiet_step (fail))
            refine wpQuiet_nil ?_
            intro w4 hw4
            obtain ⟨⟨w4, hb4⟩, rfl⟩ := hw4
            clear d3 d4 k1 k2 k5 cp cq ea eb
            go_wp2_with fail
            go_ret
            exact ⟨by simp, by rw [hB]; exact hbw.trans (hb3.mono hS |>.trans (hb4.mono (Nat.le_trans hS hS3)))⟩
          · refine wp_region_calm (by kernel_rfl) (by kernel_rfl) ?_
            repeat (go_big_quiet_step (fail))
            refine wpQuiet_nil ?_
            intro w4 hw4
            obtain ⟨⟨w4, hb4⟩, rfl⟩ := hw4
            clear d3 d4 k1 k2 k5 cp cq ea eb
            go_wp2_with fail
            go_ret
            exact ⟨by simp, by rw [hB]; exact hbw.trans (hb3.mono hS |>.trans (hb4.mono (Nat.le_trans hS hS3)))⟩
      · cases oa
        · refine wp_region_calm (by kernel_rfl) (by kernel_rfl) ?_
          repeat (go_big_quiet_step ((first | (go_at_call 120; with_reducible exact Hob.out _) | (go_at_call 120; with_reducible exact Hoa.out _))))
          refine wpQuiet_nil ?_
          intro w3 hw3
          obtain ⟨⟨w3, hb3⟩, rfl⟩ := hw3
          clear d3 d4 k1 ca cB
          go_wp2_with fail
          have h3 := H2.out.later hb3
          have hbx3 := (hb3.block B (Array.getElem?_eq_some_iff.1 Hbx.out).1).trans Hbx.out
          have hS3 := hb3.size
          have d3 : ∀ x : Later w3, x.w.cell? ⟨B, 3, none⟩ = some (.int .i64 a) := fun x => x.cell (by rw [cell_of_heap hbx3]; rfl)
          have d4 : ∀ x : Later w3, x.w.cell? ⟨B, 4, none⟩ = some (.int .i64 b) := fun x => x.cell (by rw [cell_of_heap hbx3]; rfl)
          have k1 : ∀ x : Later w3, x.w.cell? ⟨hb, 1, none⟩ = some (.slice (some ⟨cb, 0, none⟩) N N) := fun x => x.cell h3.h1
          have k2 : ∀ x : Later w3, x.w.cell? ⟨hb, 2, none⟩ = some (.slice (some ⟨pb, 0, none⟩) N N) := fun x => x.cell h3.h2
          have k5 : ∀ x : Later w3, x.w.cell? ⟨hb, 5, none⟩ = some (.bool dh) := fun x => x.cell h3.h5
          have cp : ∀ x : Later w3, x.w.cell? ⟨pb, a, none⟩ = some (.int .i64 p) := fun x => x.cell (by rw [← HG.out]; exact h3.cp a xa)
          have cq : ∀ x : Later w3, x.w.cell? ⟨pb, b, none⟩ = some (.int .i64 q) := fun x => x.cell (by rw [← HG2.out]; exact h3.cp b xb)
          have ea : ∀ x : Later w3, x.w.cell? ⟨cb, p, none⟩ = some (.bool qa) := fun x => x.cell (by rw [← Eqa.out]; exact h3.cc p P)
          have eb : ∀ x : Later w3, x.w.cell? ⟨cb, q, none⟩ = some (.bool qv) := fun x => x.cell (by rw [← Eqv.out]; exact h3.cc q Q)
          clear h3 hbx3 Hbx H2
          cases dh
          · refine wp_region_calm (by kernel_rfl) (by kernel_rfl) ?_
            repeat (go_big_quiet_step (fail))
            refine wpQuiet_nil ?_
            intro w4 hw4
            obtain ⟨⟨w4, hb4⟩, rfl⟩ := hw4
            clear d3 d4 k1 k2 k5 cp cq ea eb
            go_wp2_with fail
            go_ret
            exact ⟨by simp, by rw [hB]; exact hbw.trans (hb3.mono hS |>.trans (hb4.mono (Nat.le_trans hS hS3)))⟩
          · cases qa
            · refine wp_region_calm (by kernel_rfl) (by kernel_rfl) ?_
              repeat (go_big_quiet_step (fail))
              refine wpQuiet_nil ?_
              intro w4 hw4
              obtain ⟨⟨w4, hb4⟩, rfl⟩ := hw4
              clear d3 d4 k1 k2 k5 cp cq ea eb
              go_wp2_with fail
              go_ret
              exact ⟨by simp, by rw [hB]; exact hbw.trans (hb3.mono hS |>.trans (hb4.mono (Nat.le_trans hS hS3)))⟩
            · refine wp_region_calm (by kernel_rfl) (by kernel_rfl) ?_
              repeat (go_big_quiet_step (fail))
              refine wpQuiet_nil ?_
              intro w4 hw4
              obtain ⟨⟨w4, hb4⟩, rfl⟩ := hw4
              clear d3 d4 k1 k2 k5 cp cq ea eb
              go_wp2_with fail
              go_ret
              exact ⟨by simp, by rw [hB]; exact hbw.trans (hb3.mono hS |>.trans (hb4.mono (Nat.le_trans hS hS3)))⟩
        · refine wp_region_calm (by kernel_rfl) (by kernel_rfl) ?_
          repeat (go_big_quiet_step ((first | (go_at_call 120; with_reducible exact Hob.out _) | (go_at_call 120; with_reducible exact Hoa.out _))))
          refine wpQuiet_nil ?_
          intro w3 hw3
          obtain ⟨⟨w3, hb3⟩, rfl⟩ := hw3
          clear d3 d4 k1 ca cB
          go_wp2_with fail
          go_ret
          exact ⟨by simp, by rw [hB]; exact hbw.trans (hb3.mono hS)⟩
    · refine wp_region_calm (by kernel_rfl) (by kernel_rfl) ?_
      repeat (go_big_quiet_step ((first | (go_at_call 120; with_reducible exact Hob.out _) | (go_at_call 120; with_reducible exact Hoa.out _))))
      refine wpQuiet_nil ?_
      intro w3 hw3
      obtain ⟨⟨w3, hb3⟩, rfl⟩ := hw3
      clear d3 d4 k1 ca cB
      go_wp2_with fail
      go_ret
      exact ⟨by simp, by rw [hB]; exact hbw.trans (hb3.mono hS)⟩

set_option maxRecDepth 100000 in
set_option maxHeartbeats 16000000 in
theorem kem_m (k : Int) (s : ByteArray) (n a b c : Int) {w : World} {hb lb cb pb kb mb N : Nat} {L : List T} {dh kem : Bool} {cs : List Bool} (h : MindAt w hb lb cb pb kb mb N L dh kem cs) (ra0 : 0 ≤ a) (ra : a ≤ L.length) (rb0 : 0 ≤ b) (rb : b ≤ L.length) :
    Calls Try.prog 115 #[.pointer (some ⟨hb, 0, none⟩), .agg #[.int .i64 k, .string s, .int .u64 n, .int .i64 a, .int .i64 b, .int .i64 c]] w fun e w' => e = .returned (.bool ((on cs b && (on cs a || on cs (nm L (kpuT a)))) || (on cs (nm L (boxT a b)) && (kem || on cs a)))) ∧ Below w.heap.size w w' := by
  obtain ⟨a, rfl⟩ : ∃ i : Nat, a = i := ⟨a.toNat, by omega⟩
  obtain ⟨b, rfl⟩ : ∃ i : Nat, b = i := ⟨b.toNat, by omega⟩
  have ha := ra
  have hb1 := rb
  have za : (0 : Int) ≤ (a : Int) := by omega
  have ya : (a : Int) < (N : Int) := by have := h.hN; omega
  have xa : a < N := by omega
  clear ra0 ra
  have zb : (0 : Int) ≤ (b : Int) := by omega
  have yb : (b : Int) < (N : Int) := by have := h.hN; omega
  have xb : b < N := by omega
  clear rb0 rb
  obtain ⟨wv, hq⟩ : ∃ zz, (on cs (b : Int) && (on cs (a : Int) || on cs (nm L (kpuT (a : Int))))) = zz := ⟨_, rfl⟩
  rw [hq]
  have Ewv := hid hq
  clear hq
  obtain ⟨pa, hq⟩ : ∃ zz, on cs (a : Int) = zz := ⟨_, rfl⟩
  rw [hq]
  have Epa := hid hq
  clear hq
  obtain ⟨p, G, P⟩ := nm_range L (boxT (a : Int) (b : Int))
  have P : p < N := by have := h.hN; omega
  have HG := hid G
  clear G
  rw [HG.out]
  obtain ⟨bx, hq⟩ : ∃ zz, on cs (p : Int) = zz := ⟨_, rfl⟩
  rw [hq]
  have Ebx := hid hq
  clear hq
  have zp : (0 : Int) ≤ (p : Int) := by omega
  have yp : (p : Int) < (N : Int) := by omega
  go_enter Try.func115, Try.ntmps115
  go_wp2_with fail
  obtain ⟨w2, hw2⟩ : ∃ w2, w2 = w.alloc (.cells #[.int .i64 k, .string s, .int .u64 n, .int .i64 a, .int .i64 b, .int .i64 c] 76 (0, 0)) := ⟨_, rfl⟩
  have hbox : w2.heap[w.heap.size]? = some (.cells #[.int .i64 k, .string s, .int .u64 n, .int .i64 a, .int .i64 b, .int .i64 c] 76 (0, 0)) := by rw [hw2]; exact heap_at rfl
  have hbw : Below w.heap.size w w2 := by rw [hw2]; exact (Below.refl _ _).alloc (Nat.le_refl _) _
  have h2 := h.later hbw
  have hS := hbw.size
  rw [← hw2]
  clear hw2 h
  generalize hB : w.heap.size = B at *
  have H2 := hid h2
  have Hbx := hid hbox
  have d3 : ∀ x : Later w2, x.w.cell? ⟨B, 3, none⟩ = some (.int .i64 a) := fun x => x.cell (by rw [cell_of_heap hbox]; rfl)
  have d4 : ∀ x : Later w2, x.w.cell? ⟨B, 4, none⟩ = some (.int .i64 b) := fun x => x.cell (by rw [cell_of_heap hbox]; rfl)
  have k1 : ∀ x : Later w2, x.w.cell? ⟨hb, 1, none⟩ = some (.slice (some ⟨cb, 0, none⟩) N N) := fun x => x.cell h2.h1
  have k4 : ∀ x : Later w2, x.w.cell? ⟨hb, 4, none⟩ = some (.map (some mb)) := fun x => x.cell h2.h4
  have hlk : ∀ x : Later w2, (Instr.lookup 142 (.map (some mb)) (.agg #[.int .i64 a, .int .i64 b]) false).run Try.prog x.w = .ok (.int .i64 p) x.w := fun x => by rw [← HG.out]; exact h2.lk _ _ _ (x.below.block _ h2.lts.2.2.2.2.2)
  have cp : ∀ x : Later w2, x.w.cell? ⟨cb, p, none⟩ = some (.bool bx) := fun x => x.cell (by rw [← Ebx.out]; exact h2.cc p P)
  clear h2 hbox
  refine wp_region_calm (by kernel_rfl) (by kernel_rfl) ?_
  repeat (go_big_quiet_step (fail))
  refine wpQuiet_nil ?_
  intro w3 hw3
  obtain ⟨⟨w3, hb3⟩, rfl⟩ := hw3
  clear d3 d4 k1 k4 hlk cp
  go_wp2_with fail
  have h3 := H2.out.later hb3
  have hbx3 := (hb3.block B (Array.getElem?_eq_some_iff.1 Hbx.out).1).trans Hbx.out
  have hS3 := hb3.size
  have d0 : ∀ x : Later w3, x.w.cell? ⟨B, 0, none⟩ = some (.int .i64 k) := fun x => x.cell (by rw [cell_of_heap hbx3]; rfl)
  have d1 : ∀ x : Later w3, x.w.cell? ⟨B, 1, none⟩ = some (.string s) := fun x => x.cell (by rw [cell_of_heap hbx3]; rfl)
  have d2 : ∀ x : Later w3, x.w.cell? ⟨B, 2, none⟩ = some (.int .u64 n) := fun x => x.cell (by rw [cell_of_heap hbx3]; rfl)
  have d3 : ∀ x : Later w3, x.w.cell? ⟨B, 3, none⟩ = some (.int .i64 a) := fun x => x.cell (by rw [cell_of_heap hbx3]; rfl)
  have d4 : ∀ x : Later w3, x.w.cell? ⟨B, 4, none⟩ = some (.int .i64 b) := fun x => x.cell (by rw [cell_of_heap hbx3]; rfl)
  have d5 : ∀ x : Later w3, x.w.cell? ⟨B, 5, none⟩ = some (.int .i64 c) := fun x => x.cell (by rw [cell_of_heap hbx3]; rfl)
  have k1 : ∀ x : Later w3, x.w.cell? ⟨hb, 1, none⟩ = some (.slice (some ⟨cb, 0, none⟩) N N) := fun x => x.cell h3.h1
  have k6 : ∀ x : Later w3, x.w.cell? ⟨hb, 6, none⟩ = some (.bool kem) := fun x => x.cell h3.h6
  have ca : ∀ x : Later w3, x.w.cell? ⟨cb, a, none⟩ = some (.bool pa) := fun x => x.cell (by rw [← Epa.out]; exact h3.cc a xa)
  have Hw : Hid (∀ x : Later w3, Calls Try.prog 114 #[.pointer (some ⟨hb, 0, none⟩), .agg #[.int .i64 k, .string s, .int .u64 n, .int .i64 a, .int .i64 b, .int .i64 c]] x.w fun e w'' => e = .returned (.bool wv) ∧ ∃ y : Later w3, w'' = y.w) := hid fun x => by rw [← Ewv.out]; exact Calls.calm (wrap_m k s n a b c (h3.later x.below) (by omega) ha (by omega) hb1)
  clear h3 hbx3 Hbx H2 ha hb1
  cases wv
  · cases bx
    · refine wp_region_calm (by kernel_rfl) (by kernel_rfl) ?_
      repeat (go_big_quiet_step ((go_at_call 114; exact Hw.out _)))
      refine wpQuiet_nil ?_
      intro w4 hw4
      obtain ⟨⟨w4, hb4⟩, rfl⟩ := hw4
      clear d0 d1 d2 d3 d4 d5 k1 k6 ca
      go_wp2_with fail
      go_ret
      exact ⟨by simp, by rw [hB]; exact hbw.trans (hb3.mono hS |>.trans (hb4.mono (Nat.le_trans hS hS3)))⟩
    · cases kem
      · refine wp_region_calm (by kernel_rfl) (by kernel_rfl) ?_
        repeat (go_big_quiet_step ((go_at_call 114; exact Hw.out _)))
        refine wpQuiet_nil ?_
        intro w4 hw4
        obtain ⟨⟨w4, hb4⟩, rfl⟩ := hw4
        clear d0 d1 d2 d3 d4 d5 k1 k6 ca
        go_wp2_with fail
        go_ret
        exact ⟨by simp, by rw [hB]; exact hbw.trans (hb3.mono hS |>.trans (hb4.mono (Nat.le_trans hS hS3)))⟩
      · refine wp_region_calm (by kernel_rfl) (by kernel_rfl) ?_
        repeat (go_big_quiet_step ((go_at_call 114; exact Hw.out _)))
        refine wpQuiet_nil ?_
        intro w4 hw4
        obtain ⟨⟨w4, hb4⟩, rfl⟩ := hw4
        clear d0 d1 d2 d3 d4 d5 k1 k6 ca
        go_wp2_with fail
        go_ret
        exact ⟨by simp, by rw [hB]; exact hbw.trans (hb3.mono hS |>.trans (hb4.mono (Nat.le_trans hS hS3)))⟩
  · refine wp_region_calm (by kernel_rfl) (by kernel_rfl) ?_
    repeat (go_big_quiet_step ((go_at_call 114; exact Hw.out _)))
    refine wpQuiet_nil ?_
    intro w4 hw4
    obtain ⟨⟨w4, hb4⟩, rfl⟩ := hw4
    clear d0 d1 d2 d3 d4 d5 k1 k6 ca
    go_wp2_with fail
    go_ret
    exact ⟨by simp, by rw [hB]; exact hbw.trans (hb3.mono hS |>.trans (hb4.mono (Nat.le_trans hS hS3)))⟩

end Go.Proofs.Ytbaliaodioflfaa
