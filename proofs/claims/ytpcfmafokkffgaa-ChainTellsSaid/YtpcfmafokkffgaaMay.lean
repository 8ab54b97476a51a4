/-
  Walks through (*term.Store).may: may a term be put? For every term and every memory that holds a store.
-/
import Derived.Test.YtpcfmafokkffgaaTermC
namespace Go.Proofs.Ytpcfmafokkffgaa
open Go.RowKit

theorem StoAt.later {w w' : World} {b : Nat} {L : List T} {m : Int} {lb db mb lc dc : Nat} (h : StoAt w b L m lb db mb lc dc) (hb : Below w.heap.size w w') : StoAt w' b L m lb db mb lc dc := by
  have hs := hb.size
  refine ⟨h.good, h.m0, h.m1, h.len, (hb.cell h.lt).trans h.c0, (hb.cell h.lt).trans h.c1, (hb.cell h.lt).trans h.c2, (hb.cell h.lt).trans h.c3, fun j => (hb.frozen h.lt).trans (h.fz j),
    fun i t hi j v hj => (hb.cell h.llt).trans (h.cl i t hi j v hj), fun i hi => (hb.cell h.dlt).trans (h.cd i hi), Nat.lt_of_lt_of_le h.lt hs, Nat.lt_of_lt_of_le h.llt hs, Nat.lt_of_lt_of_le h.dlt hs, Nat.lt_of_lt_of_le h.mlt hs, ?_⟩
  obtain ⟨es, ck, h1, h2⟩ := h.hm
  exact ⟨es, ck, (hb.block _ h.mlt).trans h1, h2⟩

theorem ints_cell {w : World} {g : Nat} {xs : List Int} {t : TypeId} (h : w.heap[g]? = some (.cells (ints xs).toArray t (0, 0))) {j : Nat} (hj : j < xs.length) : w.cell? ⟨g, j, none⟩ = some (.int .i64 (xs.getD j 0)) := by
  rw [cell_of_heap h]
  simp [ints, List.getElem?_eq_getElem hj, List.getD]

/-- Are the parts names of what is there? -/
def partsIn (len : Int) (ps : List Int) : Bool := ps.all fun p => decide (1 ≤ p) && decide (p ≤ len)

theorem partsIn_no {len : Int} {ps : List Int} {j : Nat} (hj : j < ps.length) (h : ps.getD j 0 < 1 ∨ len < ps.getD j 0) : partsIn len ps = false := by
  unfold partsIn
  rw [List.all_eq_false]
  refine ⟨ps.getD j 0, ?_, ?_⟩
  · rw [show ps.getD j 0 = ps[j] from by simp [List.getD, List.getElem?_eq_getElem hj]]
    exact List.getElem_mem hj
  · generalize ps.getD j 0 = p at *
    rcases h with h | h <;> simp <;> omega

theorem partsIn_yes {len : Int} {ps : List Int} (h : ∀ j, j < ps.length → 1 ≤ ps.getD j 0 ∧ ps.getD j 0 ≤ len) : partsIn len ps = true := by
  unfold partsIn
  rw [List.all_eq_true]
  intro p hp
  obtain ⟨j, hj, rfl⟩ := List.getElem_of_mem hp
  have := h j hj
  rw [show ps.getD j 0 = ps[j] from by simp [List.getD, List.getElem?_eq_getElem hj]] at this
  simp; exact this

set_option maxHeartbeats 2000000 in
theorem may_pass {b : Nat} {L : List T} {m : Int} {lb db mb lc dc : Nat} (k : Int) (s : ByteArray) (n a b' c : Int) {w : World} (h : StoAt w b L m lb db mb lc dc)
    (h1 : decide (k < 1) = false) (h2 : decide (12 ≤ k) = false) (h3 : T.only ⟨k, s, n, a, b', c⟩ = ⟨k, s, n, a, b', c⟩) (h4 : decide (1000 < (s.size : Int)) = false) (h5 : (k == 4) = false) :
    Calls Try.prog 57 #[.pointer (some ⟨b, 0, none⟩), T.val ⟨k, s, n, a, b', c⟩] w fun e w' => e = .returned (.bool (partsIn L.length (T.parts ⟨k, s, n, a, b', c⟩))) ∧ Below w.heap.size w w' := by
  have Hq : Hid (∀ w, Calls Try.prog 80 #[.agg #[.int .i64 k, .string s, .int .u64 n, .int .i64 a, .int .i64 b', .int .i64 c]] w fun e w' =>
      e = .returned (.agg #[.int .i64 k, .string s, .int .u64 n, .int .i64 a, .int .i64 b', .int .i64 c]) ∧ Below w.heap.size w w') := hid fun w => by
    have hq := only_calls k s n a b' c w
    rw [h3] at hq
    exact hq
  clear h3
  simp only [T.val]
  go_enter Try.func57, Try.ntmps57
  go_wp2_with fail
  obtain ⟨w2, hw2⟩ : ∃ w2, w2 = w.alloc (.cells #[.int .i64 k, .string s, .int .u64 n, .int .i64 a, .int .i64 b', .int .i64 c] 47) := ⟨_, rfl⟩
  have hbox : w2.heap[w.heap.size]? = some (.cells #[.int .i64 k, .string s, .int .u64 n, .int .i64 a, .int .i64 b', .int .i64 c] 47) := by rw [hw2]; exact heap_at rfl
  rw [← hw2]
  generalize hB : w.heap.size = B at *
  have c0 : ∀ x : Later w2, x.w.cell? ⟨B, 0, none⟩ = some (.int .i64 k) := fun x => x.cell (by rw [cell_of_heap hbox]; rfl)
  have c1 : ∀ x : Later w2, x.w.cell? ⟨B, 1, none⟩ = some (.string s) := fun x => x.cell (by rw [cell_of_heap hbox]; rfl)
  have c2 : ∀ x : Later w2, x.w.cell? ⟨B, 2, none⟩ = some (.int .u64 n) := fun x => x.cell (by rw [cell_of_heap hbox]; rfl)
  have c3 : ∀ x : Later w2, x.w.cell? ⟨B, 3, none⟩ = some (.int .i64 a) := fun x => x.cell (by rw [cell_of_heap hbox]; rfl)
  have c4 : ∀ x : Later w2, x.w.cell? ⟨B, 4, none⟩ = some (.int .i64 b') := fun x => x.cell (by rw [cell_of_heap hbox]; rfl)
  have c5 : ∀ x : Later w2, x.w.cell? ⟨B, 5, none⟩ = some (.int .i64 c) := fun x => x.cell (by rw [cell_of_heap hbox]; rfl)
  clear hbox
  have Hw := hid hw2
  clear hw2
  refine wp_region_calm (by kernel_rfl) (by kernel_rfl) ?_
  repeat (go_big_quiet_step ((go_at_call 80; exact Calls.calm (Hq.out _))))
  refine wpQuiet_nil ?_
  intro w3 hw3
  obtain ⟨⟨w3, hb3⟩, rfl⟩ := hw3
  have d0 := c0 ⟨w3, hb3⟩
  have d1 := c1 ⟨w3, hb3⟩
  have d2 := c2 ⟨w3, hb3⟩
  have d3 := c3 ⟨w3, hb3⟩
  have d4 := c4 ⟨w3, hb3⟩
  have d5 := c5 ⟨w3, hb3⟩
  clear c0 c1 c2 c3 c4 c5
  dsimp only at d0 d1 d2 d3 d4 d5 ⊢
  go_wp2_with fail
  refine (parts_calls k s n a b' c _).mono ?_
  rintro e w4 ⟨ad, rfl, hb4, hl⟩
  go_wp2_with fail
  have hbw : Below w.heap.size w w4 := by
    have e1 : Below w.heap.size w w2 := by rw [Hw.out]; exact (Below.refl _ _).alloc (Nat.le_refl _) _
    have e2 := e1.trans (hb3.mono e1.size)
    exact e2.trans (hb4.mono e2.size)
  have h' := h.later hbw
  have hbB : Below B w w4 := by rw [← hB]; exact hbw
  clear h d0 d1 d2 d3 d4 d5 hb4 hb3
  have hpl : (T.parts ⟨k, s, n, a, b', c⟩).length = many k := parts_length _
  generalize hps : T.parts ⟨k, s, n, a, b', c⟩ = ps at *
  have Hpl := hid hpl
  have Hps := hid hps
  clear hps hpl
  have hm3 := many_le k
  generalize many k = q at *
  go_loop [42] (fun i => ∃ j : Nat, j ≤ q ∧ i = .int .i64 j ∧ Hid (∀ r, r < j → 1 ≤ ps.getD r 0 ∧ ps.getD r 0 ≤ L.length)) (fun i => q - (intOf i).toNat)
  case atStart => exact ⟨0, Nat.zero_le _, rfl, hid fun r hr => by omega⟩
  case round =>
    obtain ⟨j, hj, rfl, hin⟩ := hrel
    by_cases hlt : j < q
    · have hlen : j < ps.length := by rw [Hpl.out]; exact hlt
      obtain ⟨g, rfl, hc⟩ : ∃ g, ad = some ⟨g, 0, none⟩ ∧ w4.cell? ⟨g, j, none⟩ = some (.int .i64 (ps.getD j 0)) := by
        rcases hl with ⟨h, _⟩ | ⟨g, h1, _, h2⟩
        · rw [h] at hlen; simp at hlen
        · exact ⟨g, h1, ints_cell h2 hlen⟩
      have Hno := fun h => hid (partsIn_no (len := L.length) hlen h)
      have hstep : 1 ≤ ps.getD j 0 → ps.getD j 0 ≤ L.length → Hid (∀ r, r < j + 1 → 1 ≤ ps.getD r 0 ∧ ps.getD r 0 ≤ L.length) := fun h1 h2 => hid fun r hr => by
        by_cases hrj : r < j
        · exact hin.out r hrj
        · obtain rfl : r = j := by omega
          exact ⟨h1, h2⟩
      clear hl hlen hin
      generalize ps.getD j 0 = p at *
      by_cases hp1 : p < 1
      · have hd : decide (p < 1) = true := by simpa using hp1
        have Hno' := Hno (.inl hp1)
        clear Hno hstep
        go_wp2_with fail
        go_ret
        exact ⟨by rw [Hps.out, Hno'.out]; rfl, by first | exact hbw | exact hbB⟩
      · have hd : decide (p < 1) = false := by simpa using hp1
        by_cases hp2 : (L.length : Int) < p
        · have hd2 : decide ((L.length : Int) < p) = true := by simpa using hp2
          have Hno' := Hno (.inr hp2)
          clear Hno hstep
          go_wp2_with (go_at_call 18; refine (len_calls' h').mono ?_; rintro e w' ⟨rfl, rfl⟩)
          go_ret
          exact ⟨by rw [Hps.out, Hno'.out]; rfl, by first | exact hbw | exact hbB⟩
        · have hd2 : decide ((L.length : Int) < p) = false := by simpa using hp2
          have hst := hstep (by omega) (by omega)
          clear Hno hstep
          go_wp2_with (go_at_call 18; refine (len_calls' h').mono ?_; rintro e w' ⟨rfl, rfl⟩)
          go_round
          case rel => exact ⟨j + 1, by omega, by go_num, hst⟩
          case measure => simp [intOf]; omega
    · obtain rfl : j = q := by omega
      have Hyes := hid (partsIn_yes (len := L.length) (ps := ps) fun r hr => hin.out r (by rw [← Hpl.out]; exact hr))
      go_wp2_with fail
      go_ret
      exact ⟨by rw [Hps.out, Hyes.out]; rfl, by first | exact hbw | exact hbB⟩
set_option maxHeartbeats 2000000 in
theorem may_pass4 {b : Nat} {L : List T} {m : Int} {lb db mb lc dc : Nat} (k : Int) (s : ByteArray) (n a b' c : Int) {w : World} (h : StoAt w b L m lb db mb lc dc)
    (h1 : decide (k < 1) = false) (h2 : decide (12 ≤ k) = false) (h3 : T.only ⟨k, s, n, a, b', c⟩ = ⟨k, s, n, a, b', c⟩) (h4 : decide (1000 < (s.size : Int)) = false) (h5 : (k == 4) = true) (h6 : decide (b' < a) = false) :
    Calls Try.prog 57 #[.pointer (some ⟨b, 0, none⟩), T.val ⟨k, s, n, a, b', c⟩] w fun e w' => e = .returned (.bool (partsIn L.length (T.parts ⟨k, s, n, a, b', c⟩))) ∧ Below w.heap.size w w' := by
  have Hq : Hid (∀ w, Calls Try.prog 80 #[.agg #[.int .i64 k, .string s, .int .u64 n, .int .i64 a, .int .i64 b', .int .i64 c]] w fun e w' =>
      e = .returned (.agg #[.int .i64 k, .string s, .int .u64 n, .int .i64 a, .int .i64 b', .int .i64 c]) ∧ Below w.heap.size w w') := hid fun w => by
    have hq := only_calls k s n a b' c w
    rw [h3] at hq
    exact hq
  clear h3
  simp only [T.val]
  go_enter Try.func57, Try.ntmps57
  go_wp2_with fail
  obtain ⟨w2, hw2⟩ : ∃ w2, w2 = w.alloc (.cells #[.int .i64 k, .string s, .int .u64 n, .int .i64 a, .int .i64 b', .int .i64 c] 47) := ⟨_, rfl⟩
  have hbox : w2.heap[w.heap.size]? = some (.cells #[.int .i64 k, .string s, .int .u64 n, .int .i64 a, .int .i64 b', .int .i64 c] 47) := by rw [hw2]; exact heap_at rfl
  rw [← hw2]
  generalize hB : w.heap.size = B at *
  have c0 : ∀ x : Later w2, x.w.cell? ⟨B, 0, none⟩ = some (.int .i64 k) := fun x => x.cell (by rw [cell_of_heap hbox]; rfl)
  have c1 : ∀ x : Later w2, x.w.cell? ⟨B, 1, none⟩ = some (.string s) := fun x => x.cell (by rw [cell_of_heap hbox]; rfl)
  have c2 : ∀ x : Later w2, x.w.cell? ⟨B, 2, none⟩ = some (.int .u64 n) := fun x => x.cell (by rw [cell_of_heap hbox]; rfl)
  have c3 : ∀ x : Later w2, x.w.cell? ⟨B, 3, none⟩ = some (.int .i64 a) := fun x => x.cell (by rw [cell_of_heap hbox]; rfl)
  have c4 : ∀ x : Later w2, x.w.cell? ⟨B, 4, none⟩ = some (.int .i64 b') := fun x => x.cell (by rw [cell_of_heap hbox]; rfl)
  have c5 : ∀ x : Later w2, x.w.cell? ⟨B, 5, none⟩ = some (.int .i64 c) := fun x => x.cell (by rw [cell_of_heap hbox]; rfl)
  clear hbox
  have Hw := hid hw2
  clear hw2
  refine wp_region_calm (by kernel_rfl) (by kernel_rfl) ?_
  repeat (go_big_quiet_step ((go_at_call 80; exact Calls.calm (Hq.out _))))
  refine wpQuiet_nil ?_
  intro w3 hw3
  obtain ⟨⟨w3, hb3⟩, rfl⟩ := hw3
  have d0 := c0 ⟨w3, hb3⟩
  have d1 := c1 ⟨w3, hb3⟩
  have d2 := c2 ⟨w3, hb3⟩
  have d3 := c3 ⟨w3, hb3⟩
  have d4 := c4 ⟨w3, hb3⟩
  have d5 := c5 ⟨w3, hb3⟩
  clear c0 c1 c2 c3 c4 c5
  dsimp only at d0 d1 d2 d3 d4 d5 ⊢
  go_wp2_with fail
  refine (parts_calls k s n a b' c _).mono ?_
  rintro e w4 ⟨ad, rfl, hb4, hl⟩
  go_wp2_with fail
  have hbw : Below w.heap.size w w4 := by
    have e1 : Below w.heap.size w w2 := by rw [Hw.out]; exact (Below.refl _ _).alloc (Nat.le_refl _) _
    have e2 := e1.trans (hb3.mono e1.size)
    exact e2.trans (hb4.mono e2.size)
  have h' := h.later hbw
  have hbB : Below B w w4 := by rw [← hB]; exact hbw
  clear h d0 d1 d2 d3 d4 d5 hb4 hb3
  have hpl : (T.parts ⟨k, s, n, a, b', c⟩).length = many k := parts_length _
  generalize hps : T.parts ⟨k, s, n, a, b', c⟩ = ps at *
  have Hpl := hid hpl
  have Hps := hid hps
  clear hps hpl
  have hm3 := many_le k
  generalize many k = q at *
  go_loop [42] (fun i => ∃ j : Nat, j ≤ q ∧ i = .int .i64 j ∧ Hid (∀ r, r < j → 1 ≤ ps.getD r 0 ∧ ps.getD r 0 ≤ L.length)) (fun i => q - (intOf i).toNat)
  case atStart => exact ⟨0, Nat.zero_le _, rfl, hid fun r hr => by omega⟩
  case round =>
    obtain ⟨j, hj, rfl, hin⟩ := hrel
    by_cases hlt : j < q
    · have hlen : j < ps.length := by rw [Hpl.out]; exact hlt
      obtain ⟨g, rfl, hc⟩ : ∃ g, ad = some ⟨g, 0, none⟩ ∧ w4.cell? ⟨g, j, none⟩ = some (.int .i64 (ps.getD j 0)) := by
        rcases hl with ⟨h, _⟩ | ⟨g, h1, _, h2⟩
        · rw [h] at hlen; simp at hlen
        · exact ⟨g, h1, ints_cell h2 hlen⟩
      have Hno := fun h => hid (partsIn_no (len := L.length) hlen h)
      have hstep : 1 ≤ ps.getD j 0 → ps.getD j 0 ≤ L.length → Hid (∀ r, r < j + 1 → 1 ≤ ps.getD r 0 ∧ ps.getD r 0 ≤ L.length) := fun h1 h2 => hid fun r hr => by
        by_cases hrj : r < j
        · exact hin.out r hrj
        · obtain rfl : r = j := by omega
          exact ⟨h1, h2⟩
      clear hl hlen hin
      generalize ps.getD j 0 = p at *
      by_cases hp1 : p < 1
      · have hd : decide (p < 1) = true := by simpa using hp1
        have Hno' := Hno (.inl hp1)
        clear Hno hstep
        go_wp2_with fail
        go_ret
        exact ⟨by rw [Hps.out, Hno'.out]; rfl, by first | exact hbw | exact hbB⟩
      · have hd : decide (p < 1) = false := by simpa using hp1
        by_cases hp2 : (L.length : Int) < p
        · have hd2 : decide ((L.length : Int) < p) = true := by simpa using hp2
          have Hno' := Hno (.inr hp2)
          clear Hno hstep
          go_wp2_with (go_at_call 18; refine (len_calls' h').mono ?_; rintro e w' ⟨rfl, rfl⟩)
          go_ret
          exact ⟨by rw [Hps.out, Hno'.out]; rfl, by first | exact hbw | exact hbB⟩
        · have hd2 : decide ((L.length : Int) < p) = false := by simpa using hp2
          have hst := hstep (by omega) (by omega)
          clear Hno hstep
          go_wp2_with (go_at_call 18; refine (len_calls' h').mono ?_; rintro e w' ⟨rfl, rfl⟩)
          go_round
          case rel => exact ⟨j + 1, by omega, by go_num, hst⟩
          case measure => simp [intOf]; omega
    · obtain rfl : j = q := by omega
      have Hyes := hid (partsIn_yes (len := L.length) (ps := ps) fun r hr => hin.out r (by rw [← Hpl.out]; exact hr))
      go_wp2_with fail
      go_ret
      exact ⟨by rw [Hps.out, Hyes.out]; rfl, by first | exact hbw | exact hbB⟩
set_option maxHeartbeats 2000000 in
theorem may_fail1 {b : Nat} (k : Int) (s : ByteArray) (n a b' c : Int) {w : World} (h1 : decide (k < 1) = true) :
    Calls Try.prog 57 #[.pointer (some ⟨b, 0, none⟩), T.val ⟨k, s, n, a, b', c⟩] w fun e w' => e = .returned (.bool false) ∧ Below w.heap.size w w' := by
  simp only [T.val]
  go_enter Try.func57, Try.ntmps57
  go_wp2_with fail
  obtain ⟨w2, hw2⟩ : ∃ w2, w2 = w.alloc (.cells #[.int .i64 k, .string s, .int .u64 n, .int .i64 a, .int .i64 b', .int .i64 c] 47) := ⟨_, rfl⟩
  have hbox : w2.heap[w.heap.size]? = some (.cells #[.int .i64 k, .string s, .int .u64 n, .int .i64 a, .int .i64 b', .int .i64 c] 47) := by rw [hw2]; exact heap_at rfl
  rw [← hw2]
  generalize hB : w.heap.size = B at *
  have c0 : ∀ x : Later w2, x.w.cell? ⟨B, 0, none⟩ = some (.int .i64 k) := fun x => x.cell (by rw [cell_of_heap hbox]; rfl)
  have c1 : ∀ x : Later w2, x.w.cell? ⟨B, 1, none⟩ = some (.string s) := fun x => x.cell (by rw [cell_of_heap hbox]; rfl)
  have c2 : ∀ x : Later w2, x.w.cell? ⟨B, 2, none⟩ = some (.int .u64 n) := fun x => x.cell (by rw [cell_of_heap hbox]; rfl)
  have c3 : ∀ x : Later w2, x.w.cell? ⟨B, 3, none⟩ = some (.int .i64 a) := fun x => x.cell (by rw [cell_of_heap hbox]; rfl)
  have c4 : ∀ x : Later w2, x.w.cell? ⟨B, 4, none⟩ = some (.int .i64 b') := fun x => x.cell (by rw [cell_of_heap hbox]; rfl)
  have c5 : ∀ x : Later w2, x.w.cell? ⟨B, 5, none⟩ = some (.int .i64 c) := fun x => x.cell (by rw [cell_of_heap hbox]; rfl)
  clear hbox
  have Hw := hid hw2
  clear hw2
  refine wp_region_calm (by kernel_rfl) (by kernel_rfl) ?_
  repeat (go_big_quiet_step (fail))
  refine wpQuiet_nil ?_
  intro w3 hw3
  obtain ⟨⟨w3, hb3⟩, rfl⟩ := hw3
  clear c0 c1 c2 c3 c4 c5
  go_wp2_with fail
  go_ret
  have hbw : Below w.heap.size w w3 := by
    have e1 : Below w.heap.size w w2 := by rw [Hw.out]; exact (Below.refl _ _).alloc (Nat.le_refl _) _
    exact e1.trans (hb3.mono e1.size)
  have hbB : Below B w w3 := by rw [← hB]; exact hbw
  exact ⟨rfl, by first | exact hbw | exact hbB⟩

set_option maxHeartbeats 2000000 in
theorem may_fail2 {b : Nat} (k : Int) (s : ByteArray) (n a b' c : Int) {w : World} (h1 : decide (k < 1) = false) (h2 : decide (12 ≤ k) = true) :
    Calls Try.prog 57 #[.pointer (some ⟨b, 0, none⟩), T.val ⟨k, s, n, a, b', c⟩] w fun e w' => e = .returned (.bool false) ∧ Below w.heap.size w w' := by
  simp only [T.val]
  go_enter Try.func57, Try.ntmps57
  go_wp2_with fail
  obtain ⟨w2, hw2⟩ : ∃ w2, w2 = w.alloc (.cells #[.int .i64 k, .string s, .int .u64 n, .int .i64 a, .int .i64 b', .int .i64 c] 47) := ⟨_, rfl⟩
  have hbox : w2.heap[w.heap.size]? = some (.cells #[.int .i64 k, .string s, .int .u64 n, .int .i64 a, .int .i64 b', .int .i64 c] 47) := by rw [hw2]; exact heap_at rfl
  rw [← hw2]
  generalize hB : w.heap.size = B at *
  have c0 : ∀ x : Later w2, x.w.cell? ⟨B, 0, none⟩ = some (.int .i64 k) := fun x => x.cell (by rw [cell_of_heap hbox]; rfl)
  have c1 : ∀ x : Later w2, x.w.cell? ⟨B, 1, none⟩ = some (.string s) := fun x => x.cell (by rw [cell_of_heap hbox]; rfl)
  have c2 : ∀ x : Later w2, x.w.cell? ⟨B, 2, none⟩ = some (.int .u64 n) := fun x => x.cell (by rw [cell_of_heap hbox]; rfl)
  have c3 : ∀ x : Later w2, x.w.cell? ⟨B, 3, none⟩ = some (.int .i64 a) := fun x => x.cell (by rw [cell_of_heap hbox]; rfl)
  have c4 : ∀ x : Later w2, x.w.cell? ⟨B, 4, none⟩ = some (.int .i64 b') := fun x => x.cell (by rw [cell_of_heap hbox]; rfl)
  have c5 : ∀ x : Later w2, x.w.cell? ⟨B, 5, none⟩ = some (.int .i64 c) := fun x => x.cell (by rw [cell_of_heap hbox]; rfl)
  clear hbox
  have Hw := hid hw2
  clear hw2
  refine wp_region_calm (by kernel_rfl) (by kernel_rfl) ?_
  repeat (go_big_quiet_step (fail))
  refine wpQuiet_nil ?_
  intro w3 hw3
  obtain ⟨⟨w3, hb3⟩, rfl⟩ := hw3
  clear c0 c1 c2 c3 c4 c5
  go_wp2_with fail
  go_ret
  have hbw : Below w.heap.size w w3 := by
    have e1 : Below w.heap.size w w2 := by rw [Hw.out]; exact (Below.refl _ _).alloc (Nat.le_refl _) _
    exact e1.trans (hb3.mono e1.size)
  have hbB : Below B w w3 := by rw [← hB]; exact hbw
  exact ⟨rfl, by first | exact hbw | exact hbB⟩

set_option maxHeartbeats 2000000 in
theorem may_fail3 {b : Nat} (k : Int) (s : ByteArray) (n a b' c : Int) {w : World} (h1 : decide (k < 1) = false) (h2 : decide (12 ≤ k) = false) (h3 : T.only ⟨k, s, n, a, b', c⟩ ≠ ⟨k, s, n, a, b', c⟩) :
    Calls Try.prog 57 #[.pointer (some ⟨b, 0, none⟩), T.val ⟨k, s, n, a, b', c⟩] w fun e w' => e = .returned (.bool false) ∧ Below w.heap.size w w' := by
  obtain ⟨k', s', n', a2, b2, c2, ho⟩ : ∃ k' s' n' a2 b2 c2, T.only ⟨k, s, n, a, b', c⟩ = ⟨k', s', n', a2, b2, c2⟩ := ⟨_, _, _, _, _, _, rfl⟩
  have Hq : Hid (∀ w, Calls Try.prog 80 #[.agg #[.int .i64 k, .string s, .int .u64 n, .int .i64 a, .int .i64 b', .int .i64 c]] w fun e w' =>
      e = .returned (.agg #[.int .i64 k', .string s', .int .u64 n', .int .i64 a2, .int .i64 b2, .int .i64 c2]) ∧ Below w.heap.size w w') := hid fun w => by
    have hq := only_calls k s n a b' c w
    rw [ho] at hq
    exact hq
  have hE : ∀ w, (binOp .neq 47 (.agg #[.int .i64 k, .string s, .int .u64 n, .int .i64 a, .int .i64 b', .int .i64 c]) (.agg #[.int .i64 k', .string s', .int .u64 n', .int .i64 a2, .int .i64 b2, .int .i64 c2])).run Try.prog w = .ok (.bool true) w := fun w => by
    have := neq_T ⟨k, s, n, a, b', c⟩ ⟨k', s', n', a2, b2, c2⟩ w
    rw [show decide ((⟨k, s, n, a, b', c⟩ : T) = ⟨k', s', n', a2, b2, c2⟩) = false from by rw [← ho]; exact decide_eq_false (Ne.symm h3)] at this
    exact this
  clear h3 ho
  simp only [T.val]
  go_enter Try.func57, Try.ntmps57
  go_wp2_with fail
  obtain ⟨w2, hw2⟩ : ∃ w2, w2 = w.alloc (.cells #[.int .i64 k, .string s, .int .u64 n, .int .i64 a, .int .i64 b', .int .i64 c] 47) := ⟨_, rfl⟩
  have hbox : w2.heap[w.heap.size]? = some (.cells #[.int .i64 k, .string s, .int .u64 n, .int .i64 a, .int .i64 b', .int .i64 c] 47) := by rw [hw2]; exact heap_at rfl
  rw [← hw2]
  generalize hB : w.heap.size = B at *
  have c0 : ∀ x : Later w2, x.w.cell? ⟨B, 0, none⟩ = some (.int .i64 k) := fun x => x.cell (by rw [cell_of_heap hbox]; rfl)
  have c1 : ∀ x : Later w2, x.w.cell? ⟨B, 1, none⟩ = some (.string s) := fun x => x.cell (by rw [cell_of_heap hbox]; rfl)
  have c2 : ∀ x : Later w2, x.w.cell? ⟨B, 2, none⟩ = some (.int .u64 n) := fun x => x.cell (by rw [cell_of_heap hbox]; rfl)
  have c3 : ∀ x : Later w2, x.w.cell? ⟨B, 3, none⟩ = some (.int .i64 a) := fun x => x.cell (by rw [cell_of_heap hbox]; rfl)
  have c4 : ∀ x : Later w2, x.w.cell? ⟨B, 4, none⟩ = some (.int .i64 b') := fun x => x.cell (by rw [cell_of_heap hbox]; rfl)
  have c5 : ∀ x : Later w2, x.w.cell? ⟨B, 5, none⟩ = some (.int .i64 c) := fun x => x.cell (by rw [cell_of_heap hbox]; rfl)
  clear hbox
  have Hw := hid hw2
  clear hw2
  refine wp_region_calm (by kernel_rfl) (by kernel_rfl) ?_
  repeat (go_big_quiet_step ((go_at_call 80; exact Calls.calm (Hq.out _))))
  refine wpQuiet_nil ?_
  intro w3 hw3
  obtain ⟨⟨w3, hb3⟩, rfl⟩ := hw3
  clear c0 c1 c2 c3 c4 c5
  go_wp2_with fail
  go_ret
  have hbw : Below w.heap.size w w3 := by
    have e1 : Below w.heap.size w w2 := by rw [Hw.out]; exact (Below.refl _ _).alloc (Nat.le_refl _) _
    exact e1.trans (hb3.mono e1.size)
  have hbB : Below B w w3 := by rw [← hB]; exact hbw
  exact ⟨rfl, by first | exact hbw | exact hbB⟩

set_option maxHeartbeats 2000000 in
theorem may_fail4 {b : Nat} (k : Int) (s : ByteArray) (n a b' c : Int) {w : World} (h1 : decide (k < 1) = false) (h2 : decide (12 ≤ k) = false) (h3 : T.only ⟨k, s, n, a, b', c⟩ = ⟨k, s, n, a, b', c⟩) (h4 : decide (1000 < (s.size : Int)) = true) :
    Calls Try.prog 57 #[.pointer (some ⟨b, 0, none⟩), T.val ⟨k, s, n, a, b', c⟩] w fun e w' => e = .returned (.bool false) ∧ Below w.heap.size w w' := by
  have Hq : Hid (∀ w, Calls Try.prog 80 #[.agg #[.int .i64 k, .string s, .int .u64 n, .int .i64 a, .int .i64 b', .int .i64 c]] w fun e w' =>
      e = .returned (.agg #[.int .i64 k, .string s, .int .u64 n, .int .i64 a, .int .i64 b', .int .i64 c]) ∧ Below w.heap.size w w') := hid fun w => by
    have hq := only_calls k s n a b' c w
    rw [h3] at hq
    exact hq
  clear h3
  simp only [T.val]
  go_enter Try.func57, Try.ntmps57
  go_wp2_with fail
  obtain ⟨w2, hw2⟩ : ∃ w2, w2 = w.alloc (.cells #[.int .i64 k, .string s, .int .u64 n, .int .i64 a, .int .i64 b', .int .i64 c] 47) := ⟨_, rfl⟩
  have hbox : w2.heap[w.heap.size]? = some (.cells #[.int .i64 k, .string s, .int .u64 n, .int .i64 a, .int .i64 b', .int .i64 c] 47) := by rw [hw2]; exact heap_at rfl
  rw [← hw2]
  generalize hB : w.heap.size = B at *
  have c0 : ∀ x : Later w2, x.w.cell? ⟨B, 0, none⟩ = some (.int .i64 k) := fun x => x.cell (by rw [cell_of_heap hbox]; rfl)
  have c1 : ∀ x : Later w2, x.w.cell? ⟨B, 1, none⟩ = some (.string s) := fun x => x.cell (by rw [cell_of_heap hbox]; rfl)
  have c2 : ∀ x : Later w2, x.w.cell? ⟨B, 2, none⟩ = some (.int .u64 n) := fun x => x.cell (by rw [cell_of_heap hbox]; rfl)
  have c3 : ∀ x : Later w2, x.w.cell? ⟨B, 3, none⟩ = some (.int .i64 a) := fun x => x.cell (by rw [cell_of_heap hbox]; rfl)
  have c4 : ∀ x : Later w2, x.w.cell? ⟨B, 4, none⟩ = some (.int .i64 b') := fun x => x.cell (by rw [cell_of_heap hbox]; rfl)
  have c5 : ∀ x : Later w2, x.w.cell? ⟨B, 5, none⟩ = some (.int .i64 c) := fun x => x.cell (by rw [cell_of_heap hbox]; rfl)
  clear hbox
  have Hw := hid hw2
  clear hw2
  refine wp_region_calm (by kernel_rfl) (by kernel_rfl) ?_
  repeat (go_big_quiet_step ((go_at_call 80; exact Calls.calm (Hq.out _))))
  refine wpQuiet_nil ?_
  intro w3 hw3
  obtain ⟨⟨w3, hb3⟩, rfl⟩ := hw3
  clear c0 c1 c2 c3 c4 c5
  go_wp2_with fail
  go_ret
  have hbw : Below w.heap.size w w3 := by
    have e1 : Below w.heap.size w w2 := by rw [Hw.out]; exact (Below.refl _ _).alloc (Nat.le_refl _) _
    exact e1.trans (hb3.mono e1.size)
  have hbB : Below B w w3 := by rw [← hB]; exact hbw
  exact ⟨rfl, by first | exact hbw | exact hbB⟩

set_option maxHeartbeats 2000000 in
theorem may_fail5 {b : Nat} (k : Int) (s : ByteArray) (n a b' c : Int) {w : World} (h1 : decide (k < 1) = false) (h2 : decide (12 ≤ k) = false) (h3 : T.only ⟨k, s, n, a, b', c⟩ = ⟨k, s, n, a, b', c⟩) (h4 : decide (1000 < (s.size : Int)) = false) (h5 : (k == 4) = true) (h6 : decide (b' < a) = true) :
    Calls Try.prog 57 #[.pointer (some ⟨b, 0, none⟩), T.val ⟨k, s, n, a, b', c⟩] w fun e w' => e = .returned (.bool false) ∧ Below w.heap.size w w' := by
  have Hq : Hid (∀ w, Calls Try.prog 80 #[.agg #[.int .i64 k, .string s, .int .u64 n, .int .i64 a, .int .i64 b', .int .i64 c]] w fun e w' =>
      e = .returned (.agg #[.int .i64 k, .string s, .int .u64 n, .int .i64 a, .int .i64 b', .int .i64 c]) ∧ Below w.heap.size w w') := hid fun w => by
    have hq := only_calls k s n a b' c w
    rw [h3] at hq
    exact hq
  clear h3
  simp only [T.val]
  go_enter Try.func57, Try.ntmps57
  go_wp2_with fail
  obtain ⟨w2, hw2⟩ : ∃ w2, w2 = w.alloc (.cells #[.int .i64 k, .string s, .int .u64 n, .int .i64 a, .int .i64 b', .int .i64 c] 47) := ⟨_, rfl⟩
  have hbox : w2.heap[w.heap.size]? = some (.cells #[.int .i64 k, .string s, .int .u64 n, .int .i64 a, .int .i64 b', .int .i64 c] 47) := by rw [hw2]; exact heap_at rfl
  rw [← hw2]
  generalize hB : w.heap.size = B at *
  have c0 : ∀ x : Later w2, x.w.cell? ⟨B, 0, none⟩ = some (.int .i64 k) := fun x => x.cell (by rw [cell_of_heap hbox]; rfl)
  have c1 : ∀ x : Later w2, x.w.cell? ⟨B, 1, none⟩ = some (.string s) := fun x => x.cell (by rw [cell_of_heap hbox]; rfl)
  have c2 : ∀ x : Later w2, x.w.cell? ⟨B, 2, none⟩ = some (.int .u64 n) := fun x => x.cell (by rw [cell_of_heap hbox]; rfl)
  have c3 : ∀ x : Later w2, x.w.cell? ⟨B, 3, none⟩ = some (.int .i64 a) := fun x => x.cell (by rw [cell_of_heap hbox]; rfl)
  have c4 : ∀ x : Later w2, x.w.cell? ⟨B, 4, none⟩ = some (.int .i64 b') := fun x => x.cell (by rw [cell_of_heap hbox]; rfl)
  have c5 : ∀ x : Later w2, x.w.cell? ⟨B, 5, none⟩ = some (.int .i64 c) := fun x => x.cell (by rw [cell_of_heap hbox]; rfl)
  clear hbox
  have Hw := hid hw2
  clear hw2
  refine wp_region_calm (by kernel_rfl) (by kernel_rfl) ?_
  repeat (go_big_quiet_step ((go_at_call 80; exact Calls.calm (Hq.out _))))
  refine wpQuiet_nil ?_
  intro w3 hw3
  obtain ⟨⟨w3, hb3⟩, rfl⟩ := hw3
  clear c0 c1 c2 c3 c4 c5
  go_wp2_with fail
  go_ret
  have hbw : Below w.heap.size w w3 := by
    have e1 : Below w.heap.size w w2 := by rw [Hw.out]; exact (Below.refl _ _).alloc (Nat.le_refl _) _
    exact e1.trans (hb3.mono e1.size)
  have hbB : Below B w w3 := by rw [← hB]; exact hbw
  exact ⟨rfl, by first | exact hbw | exact hbB⟩

theorem may_calls {b : Nat} {L : List T} {m : Int} {lb db mb lc dc : Nat} (k : Int) (s : ByteArray) (n a b' c : Int) {w : World} (h : StoAt w b L m lb db mb lc dc) :
    Calls Try.prog 57 #[.pointer (some ⟨b, 0, none⟩), T.val ⟨k, s, n, a, b', c⟩] w fun e w' => e = .returned (.bool (decide (T.may L.length ⟨k, s, n, a, b', c⟩))) ∧ Below w.heap.size w w' := by
  by_cases h1 : k < 1
  · have e : decide (T.may L.length ⟨k, s, n, a, b', c⟩) = false := decide_eq_false fun hm => by have := hm.1; dsimp only at this; omega
    rw [e]; exact may_fail1 k s n a b' c (by simpa using h1)
  have h1' : decide (k < 1) = false := by simpa using h1
  by_cases h2 : 12 ≤ k
  · have e : decide (T.may L.length ⟨k, s, n, a, b', c⟩) = false := decide_eq_false fun hm => by have := hm.2.1; dsimp only at this; omega
    rw [e]; exact may_fail2 k s n a b' c h1' (by simpa using h2)
  have h2' : decide (12 ≤ k) = false := by simpa using h2
  by_cases h3 : T.only ⟨k, s, n, a, b', c⟩ = ⟨k, s, n, a, b', c⟩
  case neg =>
    have e : decide (T.may L.length ⟨k, s, n, a, b', c⟩) = false := decide_eq_false fun hm => h3 hm.2.2.1.symm
    rw [e]; exact may_fail3 k s n a b' c h1' h2' h3
  by_cases h4 : 1000 < (s.size : Int)
  · have e : decide (T.may L.length ⟨k, s, n, a, b', c⟩) = false := decide_eq_false fun hm => by have := hm.2.2.2.1; dsimp only at this; omega
    rw [e]; exact may_fail4 k s n a b' c h1' h2' h3 (by simpa using h4)
  have h4' : decide (1000 < (s.size : Int)) = false := by simpa using h4
  have key : ¬ (k = 4 ∧ b' < a) → decide (T.may L.length ⟨k, s, n, a, b', c⟩) = partsIn L.length (T.parts ⟨k, s, n, a, b', c⟩) := fun h5 => by
    rw [Bool.eq_iff_iff]
    unfold partsIn
    simp only [decide_eq_true_eq, List.all_eq_true, Bool.and_eq_true]
    exact ⟨fun hm => hm.2.2.2.2.2, fun hp => ⟨by show 1 ≤ k; omega, by show k ≤ 11; omega, h3.symm, by show s.size ≤ 1000; omega, h5, hp⟩⟩
  by_cases h5 : k = 4
  · have h5' : (k == 4) = true := by simpa using h5
    by_cases h6 : b' < a
    · have e : decide (T.may L.length ⟨k, s, n, a, b', c⟩) = false := decide_eq_false fun hm => hm.2.2.2.2.1 ⟨h5, h6⟩
      rw [e]; exact may_fail5 k s n a b' c h1' h2' h3 h4' h5' (by simpa using h6)
    · rw [key fun hh => h6 hh.2]; exact may_pass4 k s n a b' c h h1' h2' h3 h4' h5' (by simpa using h6)
  · rw [key fun hh => h5 hh.1]; exact may_pass k s n a b' c h h1' h2' h3 h4' (by simpa using h5)
end Go.Proofs.Ytpcfmafokkffgaa
