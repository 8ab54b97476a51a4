/-
  Walks through what the statements share: Same of the document, Cut. For every argument.
-/
import Derived.Test.YtpcfmafokkffgaaPut
import Derived.Handy
namespace Go.Proofs.Ytpcfmafokkffgaa
open Go.RowKit

/-- So many ints lie there. -/
def IntsAt (w : World) (a : Option Addr) (xs : List Int) : Prop :=
  xs = [] ∨ ∃ g o, a = some ⟨g, o, none⟩ ∧ ∀ j, j < xs.length → w.cell? ⟨g, o + j, none⟩ = some (.int .i64 (xs.getD j 0))

theorem IntsAt.later {w w' : World} {a : Option Addr} {xs : List Int} (h : IntsAt w a xs) (hb : Below w.heap.size w w') : IntsAt w' a xs := by
  rcases h with h | ⟨g, o, ha, hc⟩
  · exact .inl h
  · exact .inr ⟨g, o, ha, fun j hj => (hb.cell (World.block_lt_of_cell? w _ (hc j hj))).trans (hc j hj)⟩

theorem IntsNew.at {w w' : World} {a : Option Addr} {xs : List Int} (h : IntsNew w w' a xs) : IntsAt w' a xs := by
  rcases h.lies with ⟨h, _⟩ | ⟨b, ha, _, hb⟩
  · exact .inl h
  · exact .inr ⟨b, 0, ha, fun j hj => by rw [Nat.zero_add]; exact ints_cell hb hj⟩

theorem list_ne {xs ys : List Int} (_hl : xs.length = ys.length) {j : Nat} (_hj : j < xs.length) (h : xs.getD j 0 ≠ ys.getD j 0) : xs ≠ ys := fun e => h (by rw [e])
theorem list_eq {xs ys : List Int} (hl : xs.length = ys.length) (h : ∀ j, j < xs.length → xs.getD j 0 = ys.getD j 0) : xs = ys := by
  refine List.ext_getElem hl fun i h1 h2 => ?_
  have := h i h1
  simpa [List.getD, List.getElem?_eq_getElem h1, List.getElem?_eq_getElem h2] using this

theorem ret_bool {a b : Bool} (h : a = b) : Ending.returned (.bool a) = .returned (.bool b) := by rw [h]

set_option maxHeartbeats 1000000 in
theorem same_calls {xs ys : List Int} {a1 a2 : Option Addr} {n1 c1 n2 c2 : Nat} {w : World} (h1 : IntsAt w a1 xs) (h2 : IntsAt w a2 ys) (e1 : n1 = xs.length) (e2 : n2 = ys.length) (hm1 : n1 ≤ 4611686018427387904) (hm2 : n2 ≤ 4611686018427387904) :
    Calls Try.prog 31 #[.slice a1 n1 c1, .slice a2 n2 c2] w fun e w' => e = .returned (.bool (decide (xs = ys))) ∧ Below w.heap.size w w' := by
  have E1 := hid e1
  have E2 := hid e2
  clear e1 e2
  by_cases hl : n1 = n2
  case neg =>
    have hne : ((n1 : Int) != (n2 : Int)) = true := by rw [bne_iff_ne]; omega
    have hf : decide (xs = ys) = false := decide_eq_false fun e => hl (by rw [E1.out, E2.out, e])
    rw [hf]
    go_enter Try.func31, Try.ntmps31
    go_wp2
    go_ret
    exact ⟨rfl, Below.refl _ _⟩
  obtain rfl := hl
  have hne : ((n1 : Int) != (n1 : Int)) = false := by simp
  go_enter Try.func31, Try.ntmps31
  go_wp2_with fail
  go_loopw [5] (fun i wr => ∃ j : Nat, j ≤ n1 ∧ i = .int .i64 j ∧ Below w.heap.size w wr ∧ Hid (∀ r, r < j → xs.getD r 0 = ys.getD r 0)) (fun i _ => n1 - (intOf i).toNat)
  case atStart => exact ⟨0, Nat.zero_le _, rfl, Below.refl _ _, hid fun r hr => by omega⟩
  case round =>
    obtain ⟨j, hj, rfl, hb, hin⟩ := hrel
    by_cases hlt : j < n1
    · have hjx : j < xs.length := by rw [← E1.out]; exact hlt
      have hjy : j < ys.length := by rw [← E2.out]; exact hlt
      obtain ⟨g1, o1, rfl, hc1⟩ := h1.resolve_left fun e => by rw [e] at hjx; simp at hjx
      obtain ⟨g2, o2, rfl, hc2⟩ := h2.resolve_left fun e => by rw [e] at hjy; simp at hjy
      have d1 := hc1 j hjx
      have d2 := hc2 j hjy
      have k1 : ∀ x : Later wr, x.w.cell? ⟨g1, o1 + j, none⟩ = some (.int .i64 (xs.getD j 0)) := fun x => x.cell ((hb.cell (World.block_lt_of_cell? w _ d1)).trans d1)
      have k2 : ∀ x : Later wr, x.w.cell? ⟨g2, o2 + j, none⟩ = some (.int .i64 (ys.getD j 0)) := fun x => x.cell ((hb.cell (World.block_lt_of_cell? w _ d2)).trans d2)
      have hno : xs.getD j 0 ≠ ys.getD j 0 → Hid (decide (xs = ys) = false) := fun h => hid (decide_eq_false (list_ne (by rw [← E1.out, ← E2.out]) hjx h))
      have hst : xs.getD j 0 = ys.getD j 0 → Hid (∀ r, r < j + 1 → xs.getD r 0 = ys.getD r 0) := fun h => hid fun r hr => by
        by_cases hrj : r < j
        · exact hin.out r hrj
        · obtain rfl : r = j := by omega
          exact h
      clear d1 d2 hc1 hc2 h1 h2 hin
      have hj64 : (0 : Int) ≤ (j : Int) := by omega
      have hj65 : (j : Int) < (n1 : Int) := by omega
      generalize xs.getD j 0 = p at *
      generalize ys.getD j 0 = q at *
      by_cases hpq : p = q
      · have hne2 : (p != q) = false := by simpa using hpq
        have hst' := hst hpq
        clear hno hst hpq
        go_wp2_with fail
        refine wp_region_calm (by kernel_rfl) (by kernel_rfl) ?_
        repeat (go_big_quiet_step (fail))
        refine wpQuiet_nil ?_
        intro w3 hw3
        obtain ⟨⟨w3, hb3⟩, rfl⟩ := hw3
        clear k1 k2
        go_wp2_with fail
        go_roundw
        case rel => exact ⟨j + 1, by omega, by go_num, hb.trans (hb3.mono hb.size), hst'⟩
        case measure => simp [intOf]; omega
      · have hne2 : (p != q) = true := by rw [bne_iff_ne]; exact hpq
        have hno' := hno hpq
        clear hno hst hpq
        go_wp2_with fail
        refine wp_region_calm (by kernel_rfl) (by kernel_rfl) ?_
        repeat (go_big_quiet_step (fail))
        refine wpQuiet_nil ?_
        intro w3 hw3
        obtain ⟨⟨w3, hb3⟩, rfl⟩ := hw3
        clear k1 k2
        go_wp2_with fail
        go_ret
        exact ⟨by rw [hno'.out]; rfl, hb.trans (hb3.mono hb.size)⟩
    · obtain rfl : j = n1 := by omega
      have Hy : Hid (decide (xs = ys) = true) := hid (decide_eq_true (list_eq (by rw [← E1.out, ← E2.out]) fun r hr => hin.out r (by rw [E1.out]; exact hr)))
      go_wp2_with fail
      go_ret
      exact ⟨by rw [Hy.out]; rfl, hb⟩

/-- A term with a text of at most 1100 bytes. -/
def T.cut (t : T) : T := { t with s := if t.s.size ≤ 1100 then t.s else t.s.extract 0 1100 }

set_option maxHeartbeats 1000000 in
theorem cut_calls (k : Int) (s : ByteArray) (n a b c : Int) (w : World) (hs : s.size ≤ maxLen) :
    Calls Try.prog 26 #[.agg #[.int .i64 k, .string s, .int .u64 n, .int .i64 a, .int .i64 b, .int .i64 c]] w fun e w' =>
      e = .returned (T.val (T.cut ⟨k, s, n, a, b, c⟩)) ∧ Below w.heap.size w w' := by
  unfold maxLen at hs
  by_cases h : s.size ≤ 1100
  · have e : T.cut ⟨k, s, n, a, b, c⟩ = ⟨k, s, n, a, b, c⟩ := by simp [T.cut, h]
    rw [e]
    go_enter Try.func26, Try.ntmps26
    go_wp2
    refine bodyPost_ret (v := T.val ⟨k, s, n, a, b, c⟩) (by simp [results, Try.results26, go_sem, T.val]) rfl ⟨rfl, ?_⟩
    exact ((Below.refl _ _).alloc (Nat.le_refl _) _).alloc (by simp) _
  · have e : T.cut ⟨k, s, n, a, b, c⟩ = ⟨k, s.extract 0 1100, n, a, b, c⟩ := by simp [T.cut, h]
    rw [e]
    go_enter Try.func26, Try.ntmps26
    go_wp2
    refine bodyPost_ret (v := T.val ⟨k, s.extract 0 1100, n, a, b, c⟩) (by simp [results, Try.results26, go_sem, T.val]) rfl ⟨rfl, ?_⟩
    exact ((Below.refl _ _).alloc (Nat.le_refl _) _).alloc (by simp) _
end Go.Proofs.Ytpcfmafokkffgaa
