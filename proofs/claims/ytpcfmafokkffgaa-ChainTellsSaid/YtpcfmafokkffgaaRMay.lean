/-
  Walks through the document's package of layer 2: (*Store).May. For every term and every memory that holds a store.
-/
import Derived.Test.YtpcfmafokkffgaaRefB
import Derived.Deep.DeepCutAuto
import Derived.Deep.RegionHeld3
namespace Go.Proofs.Ytpcfmafokkffgaa
open Go.RowKit

theorem empty_list : (⟨#[]⟩ : ByteArray).toList = [] := by rw [ByteArray.toList_eq]
theorem empty_size : (⟨#[]⟩ : ByteArray).size = 0 := rfl

/-- What May asks first. -/
abbrev RBad (k : Int) (s : ByteArray) (n : Int) : Prop := k < 1 ∨ 11 < k ∨ (k ≠ 1 ∧ s ≠ ⟨#[]⟩) ∨ (k ≠ 2 ∧ k ≠ 9 ∧ k ≠ 10 ∧ n ≠ 0) ∨ 1000 < (s.size : Int)

/-- What May asks of one part. -/
def ROk (len q : Nat) (l : List Int) (r : Nat) : Prop := (r < q → 1 ≤ l.getD r 0 ∧ l.getD r 0 ≤ len) ∧ (q ≤ r → l.getD r 0 = 0)


theorem rok_of {len q : Nat} {l : List Int} {r : Nat} {v : Int} (e : l.getD r 0 = v) (h1 : r < q → 1 ≤ v ∧ v ≤ len) (h2 : q ≤ r → v = 0) : ROk len q l r := by
  subst e; exact ⟨h1, h2⟩
theorem rok_not {len q : Nat} {l : List Int} {r : Nat} {v : Int} (e : l.getD r 0 = v) (h : r < q ∧ (v < 1 ∨ (len : Int) < v) ∨ q ≤ r ∧ v ≠ 0) : ¬ ROk len q l r := by
  subst e; intro ⟨h1, h2⟩
  rcases h with ⟨h, h'⟩ | ⟨h, h'⟩
  · have := h1 h; omega
  · exact h' (h2 h)
instance (len q : Nat) (l : List Int) (r : Nat) : Decidable (ROk len q l r) := by unfold ROk; exact inferInstance

/-- What may be, as the document asks it. -/
theorem rmay_iff {k : Int} {s : ByteArray} {n a1 b1 c1 : Int} {len : Nat} (hb : ¬ RBad k s n) :
    T.may len ⟨k, s, n, a1, b1, c1⟩ ↔ (∀ r, r < 3 → ROk len (many k) [a1, b1, c1] r) ∧ (k ≠ 4 ∨ a1 ≤ b1) := by
  have h3 : (∀ r, r < 3 → ROk len (many k) [a1, b1, c1] r) ↔ ROk len (many k) [a1, b1, c1] 0 ∧ ROk len (many k) [a1, b1, c1] 1 ∧ ROk len (many k) [a1, b1, c1] 2 := by
    constructor
    · intro h; exact ⟨h 0 (by omega), h 1 (by omega), h 2 (by omega)⟩
    · rintro ⟨h0, h1, h2⟩ r hr
      match r, hr with
      | 0, _ => exact h0
      | 1, _ => exact h1
      | 2, _ => exact h2
  rw [h3]
  have hm := many_le k
  unfold RBad at hb
  simp only [not_or] at hb
  obtain ⟨e1, e2, e3, e4, e5⟩ := hb
  have e3' : k ≠ 1 → s = ⟨#[]⟩ := fun h => Classical.byContradiction fun h' => e3 ⟨h, h'⟩
  have e4' : ¬ (k = 2 ∨ k = 9 ∨ k = 10) → n = 0 := fun h => Classical.byContradiction fun h' => e4 ⟨fun x => h (.inl x), fun x => h (.inr (.inl x)), fun x => h (.inr (.inr x)), h'⟩
  have ho : (⟨k, s, n, a1, b1, c1⟩ : T) = T.only ⟨k, s, n, a1, b1, c1⟩ ↔ (many k < 1 → a1 = 0) ∧ (many k < 2 → b1 = 0) ∧ (many k < 3 → c1 = 0) := by
    have hs : (if k = 1 then s else ⟨#[]⟩) = s := by
      by_cases h : k = 1
      · rw [if_pos h]
      · rw [if_neg h, e3' h]
    have hn : (if k = 2 ∨ k = 9 ∨ k = 10 then n else 0) = n := by
      by_cases h : k = 2 ∨ k = 9 ∨ k = 10
      · rw [if_pos h]
      · rw [if_neg h, e4' h]
    simp only [T.only, hs, hn, T.mk.injEq, true_and]
    constructor
    · rintro ⟨h1, h2, h3⟩
      refine ⟨fun h => ?_, fun h => ?_, fun h => ?_⟩
      · rw [if_neg (by omega)] at h1; exact h1
      · rw [if_neg (by omega)] at h2; exact h2
      · rw [if_neg (by omega)] at h3; exact h3
    · rintro ⟨h1, h2, h3⟩
      refine ⟨?_, ?_, ?_⟩
      · split
        · rfl
        · exact h1 (by omega)
      · split
        · rfl
        · exact h2 (by omega)
      · split
        · rfl
        · exact h3 (by omega)
  have hp : (∀ p ∈ T.parts ⟨k, s, n, a1, b1, c1⟩, 1 ≤ p ∧ p ≤ (len : Int)) ↔ (0 < many k → 1 ≤ a1 ∧ a1 ≤ len) ∧ (1 < many k → 1 ≤ b1 ∧ b1 ≤ len) ∧ (2 < many k → 1 ≤ c1 ∧ c1 ≤ len) := by
    simp only [T.parts]
    generalize many k = q at *
    match q, hm with
    | 0, _ => simp
    | 1, _ => simp
    | 2, _ => simp
    | 3, _ => simp
  unfold T.may
  rw [ho, hp]
  simp only [ROk, List.getD_cons_zero, List.getD_cons_succ]
  constructor
  · rintro ⟨_, _, ⟨o1, o2, o3⟩, _, hk, p1, p2, p3⟩
    refine ⟨⟨⟨p1, fun h => o1 (by omega)⟩, ⟨p2, fun h => o2 (by omega)⟩, ⟨p3, fun h => o3 (by omega)⟩⟩, ?_⟩
    by_cases h4 : k = 4
    · exact .inr (by have : ¬ b1 < a1 := fun h => hk ⟨h4, h⟩
                     omega)
    · exact .inl h4
  · rintro ⟨⟨⟨p1, o1⟩, ⟨p2, o2⟩, ⟨p3, o3⟩⟩, hk⟩
    refine ⟨by omega, by omega, ⟨fun h => o1 (by omega), fun h => o2 (by omega), fun h => o3 (by omega)⟩, by omega, ?_, p1, p2, p3⟩
    rintro ⟨h4, h⟩
    rcases hk with hk | hk
    · exact hk h4
    · omega
theorem rmay_bad {k : Int} {s : ByteArray} {n a1 b1 c1 : Int} {len : Int} (hb : RBad k s n) : ¬ T.may len ⟨k, s, n, a1, b1, c1⟩ := by
  rintro ⟨h1, h2, h3, h4, _⟩
  have es := congrArg T.s h3
  have en := congrArg T.n h3
  simp only [T.only] at es en h1 h2 h4
  rcases hb with h | h | ⟨h, h'⟩ | ⟨f1, f2, f3, f4⟩ | h
  · omega
  · omega
  · rw [if_neg h] at es; exact h' es
  · rw [if_neg (by omega)] at en; exact f4 en
  · omega

set_option maxRecDepth 100000 in
set_option maxHeartbeats 40000000 in
theorem rmay_calls {b : Nat} {L : List T} {m : Int} {a : Option Addr} {cap : Nat} (k : Int) (s : ByteArray) (n a1 b1 c1 : Int) {w : World} (h : RStoAt w b L m a cap) :
    Calls Try.prog 78 #[.pointer (some ⟨b, 0, none⟩), T.val ⟨k, s, n, a1, b1, c1⟩] w fun e w' => e = .returned (.bool (decide (T.may L.length ⟨k, s, n, a1, b1, c1⟩))) ∧ Below w.heap.size w w' := by
  simp only [T.val]
  go_enter Try.func78, Try.ntmps78
  go_upto_region 1 with (fail)
  obtain ⟨w2, hw2⟩ : ∃ w2, w2 = w.alloc (.cells #[.int .i64 k, .string s, .int .u64 n, .int .i64 a1, .int .i64 b1, .int .i64 c1] 114) := ⟨_, rfl⟩
  have hbox : w2.heap[w.heap.size]? = some (.cells #[.int .i64 k, .string s, .int .u64 n, .int .i64 a1, .int .i64 b1, .int .i64 c1] 114) := by rw [hw2]; exact heap_at rfl
  rw [← hw2]
  generalize hB : w.heap.size = B at *
  have C0 : ∀ x : Later w2, x.w.cell? ⟨B, 0, none⟩ = some (.int .i64 k) := fun x => x.cell (by rw [cell_of_heap hbox]; rfl)
  have C1 : ∀ x : Later w2, x.w.cell? ⟨B, 1, none⟩ = some (.string s) := fun x => x.cell (by rw [cell_of_heap hbox]; rfl)
  have C2 : ∀ x : Later w2, x.w.cell? ⟨B, 2, none⟩ = some (.int .u64 n) := fun x => x.cell (by rw [cell_of_heap hbox]; rfl)
  have C3 : ∀ x : Later w2, x.w.cell? ⟨B, 3, none⟩ = some (.int .i64 a1) := fun x => x.cell (by rw [cell_of_heap hbox]; rfl)
  have C4 : ∀ x : Later w2, x.w.cell? ⟨B, 4, none⟩ = some (.int .i64 b1) := fun x => x.cell (by rw [cell_of_heap hbox]; rfl)
  have C5 : ∀ x : Later w2, x.w.cell? ⟨B, 5, none⟩ = some (.int .i64 c1) := fun x => x.cell (by rw [cell_of_heap hbox]; rfl)
  clear hbox
  have d0 := C0 ⟨w2, Below.refl _ _⟩
  have d1 := C1 ⟨w2, Below.refl _ _⟩
  have d2 := C2 ⟨w2, Below.refl _ _⟩
  have d3 := C3 ⟨w2, Below.refl _ _⟩
  have d4 := C4 ⟨w2, Below.refl _ _⟩
  have d5 := C5 ⟨w2, Below.refl _ _⟩
  dsimp only at d0 d1 d2 d3 d4 d5
  clear C0 C1 C2 C3 C4 C5
  have Hw := hid hw2
  clear hw2
  go_cut [51] (fun s51 wx => s51 = .bool (decide (RBad k s n)) ∧ w2 = wx)
  case first =>
    by_cases h1 : k < 1
    · have e1 : decide (k < 1) = true := by simpa using h1
      go_wp2_with fail
      go_meet
      exact ⟨congrArg Value.bool (decide_eq_true (p := RBad k s n) (.inl h1)).symm, rfl⟩
    have e1 : decide (k < 1) = false := by simpa using h1
    by_cases h2 : 11 < k
    · have e2 : decide (11 < k) = true := by simpa using h2
      go_wp2_with fail
      go_meet
      exact ⟨congrArg Value.bool (decide_eq_true (p := RBad k s n) (.inr (.inl h2))).symm, rfl⟩
    have e2 : decide (11 < k) = false := by simpa using h2
    by_cases h3 : k = 1
    · subst h3
      by_cases h4 : n = 0
      · subst h4
        by_cases h5 : 1000 < (s.size : Int)
        · have e5 : decide (1000 < (s.size : Int)) = true := by simpa using h5
          go_wp2_with fail
          go_meet
          exact ⟨congrArg Value.bool (decide_eq_true (p := RBad 1 s 0) (by simp [RBad]; omega)).symm, rfl⟩
        · have e5 : decide (1000 < (s.size : Int)) = false := by simpa using h5
          go_wp2_with fail
          go_meet
          exact ⟨congrArg Value.bool (decide_eq_false (p := RBad 1 s 0) (by simp [RBad]; omega)).symm, rfl⟩
      · have e4 : (n == 0) = false := by simpa using h4
        go_wp2_with fail
        go_meet
        exact ⟨congrArg Value.bool (decide_eq_true (p := RBad 1 s n) (by simp [RBad, h4])).symm, rfl⟩
    have e3 : (k == 1) = false := by simpa using h3
    by_cases h4 : s = ⟨#[]⟩
    case neg =>
      have e4 : ¬ s.toList = [] := fun h => h4 (bytes_eq.1 (by rw [h, empty_list]))
      have e4' : s.toList.isEmpty = false := by simpa using e4
      go_wp2_with fail
      go_meet
      exact ⟨congrArg Value.bool (decide_eq_true (p := RBad k s n) (.inr (.inr (.inl ⟨h3, h4⟩)))).symm, rfl⟩
    have e4 : s.toList = [] := by rw [h4, empty_list]
    have e4' : s.toList.isEmpty = true := by rw [e4]; rfl
    have hsz : s.size = 0 := by rw [h4]; rfl
    have e5 : decide (1000 < (s.size : Int)) = false := by simp [hsz]
    have H4 := hid h4
    have Hs := hid hsz
    clear h4 hsz
    by_cases k2 : k = 2
    · subst k2
      go_wp2_with fail
      go_meet
      exact ⟨congrArg Value.bool (decide_eq_false (p := RBad 2 s n) (by simp [RBad, H4.out, empty_size])).symm, rfl⟩
    have f2 : (k == 2) = false := by simpa using k2
    by_cases k9 : k = 9
    · subst k9
      go_wp2_with fail
      go_meet
      exact ⟨congrArg Value.bool (decide_eq_false (p := RBad 9 s n) (by simp [RBad, H4.out, empty_size])).symm, rfl⟩
    have f9 : (k == 9) = false := by simpa using k9
    by_cases k10 : k = 10
    · subst k10
      go_wp2_with fail
      go_meet
      exact ⟨congrArg Value.bool (decide_eq_false (p := RBad 10 s n) (by simp [RBad, H4.out, empty_size])).symm, rfl⟩
    have f10 : (k == 10) = false := by simpa using k10
    by_cases h6 : n = 0
    · subst h6
      go_wp2_with fail
      go_meet
      exact ⟨congrArg Value.bool (decide_eq_false (p := RBad k s 0) (by simp [RBad, H4.out, empty_size]; omega)).symm, rfl⟩
    have e6 : (n == 0) = false := by simpa using h6
    go_wp2_with fail
    go_meet
    exact ⟨congrArg Value.bool (decide_eq_true (p := RBad k s n) (.inr (.inr (.inr (.inl ⟨k2, k9, k10, h6⟩))))).symm, rfl⟩
  case rest =>
    obtain ⟨rfl, rfl⟩ := hcut
    by_cases hb : RBad k s n
    · have hd : decide (RBad k s n) = true := decide_eq_true hb
      rw [hd]
      have Hb := hid hb
      clear hb
      go_wp2_with fail
      go_ret
      exact ⟨ret_bool (decide_eq_false (rmay_bad Hb.out)).symm, by rw [Hw.out]; first | exact (Below.refl _ _).alloc (Nat.le_refl _) _ | (rw [← hB]; exact (Below.refl _ _).alloc (Nat.le_refl _) _)⟩
    have hd : decide (RBad k s n) = false := decide_eq_false hb
    rw [hd]
    go_upto_region 3 with (fail)
    go_cut [5, 6] (fun s5 s6 wx => ∃ g : Nat, s5 = .slice (some ⟨g, 0, none⟩) 3 3 ∧ s6 = .int .i64 (many k) ∧ Below w2.heap.size w2 wx ∧ g < wx.heap.size ∧ wx.cell? ⟨g, 0, none⟩ = some (.int .i64 a1) ∧ wx.cell? ⟨g, 1, none⟩ = some (.int .i64 b1) ∧ wx.cell? ⟨g, 2, none⟩ = some (.int .i64 c1))
    case first =>
      go_region_held3 (fun w' => w'.cell? ⟨B, 0, none⟩ = some (.int .i64 k) ∧ w'.cell? ⟨B, 3, none⟩ = some (.int .i64 a1) ∧ w'.cell? ⟨B, 4, none⟩ = some (.int .i64 b1) ∧ w'.cell? ⟨B, 5, none⟩ = some (.int .i64 c1)) (go_keep)
        (first
          | (go_at_call 97; refine (many_calls k _).mono ?_; rintro e w' ⟨rfl, rfl⟩))
      all_goals (go_wp2_with fail; go_meet; exact ⟨w2.heap.size, rfl, rfl, ((Below.refl w2.heap.size w2).alloc (Nat.le_refl _) _).drew, (by show _ < (w2.heap.push _).size; simp), (by show World.cell? (w2.alloc _) _ = _; rw [cell_of_heap (heap_at rfl)]; rfl), (by show World.cell? (w2.alloc _) _ = _; rw [cell_of_heap (heap_at rfl)]; rfl), (by show World.cell? (w2.alloc _) _ = _; rw [cell_of_heap (heap_at rfl)]; rfl)⟩)
    case rest =>
      obtain ⟨g, rfl, rfl, hbx, hg, g0, g1, g2⟩ := hcut
      have hlt : B < w2.heap.size := by rw [Hw.out, ← hB]; show _ < (w.heap.push _).size; simp
      have f0 := (hbx.cell (p := ⟨B, 0, none⟩) hlt).trans d0
      have f3 := (hbx.cell (p := ⟨B, 3, none⟩) hlt).trans d3
      have f4 := (hbx.cell (p := ⟨B, 4, none⟩) hlt).trans d4
      have hbw : Below w.heap.size w wc := by
        have e1 : Below w.heap.size w w2 := by rw [Hw.out]; exact (Below.refl _ _).alloc (Nat.le_refl _) _
        exact e1.trans (hbx.mono e1.size)
      have h' := h.later hbw
      have l0 := h'.c0
      have hbB : Below B w wc := by rw [← hB]; exact hbw
      have HB := hid (Nat.lt_of_lt_of_le hlt hbx.size)
      have HG := hid hg
      have hbl := h'.lt
      have HL := hid hbl
      clear hbl hg
      have Hnb := hid hb
      have Hbw := hid hbw
      clear h d0 d1 d2 d3 d4 d5 hbx hb hd hlt
      have hall : ∀ j : Nat, j < 3 → wc.cell? ⟨g, j, none⟩ = some (.int .i64 ([a1, b1, c1].getD j 0)) := fun j hj => by
        match j, hj with
        | 0, _ => exact g0
        | 1, _ => exact g1
        | 2, _ => exact g2
      have Hall := hid hall
      clear hall g0 g1 g2
      have hm3 := many_le k
      generalize hq : many k = q at *
      have Hq := hid hq
      clear hq
      go_wp2_with fail
      go_loopw [7] (fun i wr => ∃ j : Nat, j ≤ 3 ∧ i = .int .i64 j ∧ Hid (Below wc.heap.size wc wr) ∧ Hid (∀ r, r < j → ROk L.length q [a1, b1, c1] r)) (fun i _ => 3 - (intOf i).toNat)
      case atStart => exact ⟨0, Nat.zero_le _, rfl, hid (Below.refl _ _), hid fun r hr => by omega⟩
      case round =>
        obtain ⟨j, hj, rfl, Hb, hin⟩ := hrel
        have r0 := (Hb.out.cell (p := ⟨B, 0, none⟩) HB.out).trans f0
        have r3 := (Hb.out.cell (p := ⟨B, 3, none⟩) HB.out).trans f3
        have r4 := (Hb.out.cell (p := ⟨B, 4, none⟩) HB.out).trans f4
        have rl := (Hb.out.cell (p := ⟨b, 0, none⟩) HL.out).trans l0
        clear f0 f3 f4 l0
        by_cases hlt : j < 3
        · have hc := (Hb.out.cell (p := ⟨g, j, none⟩) HG.out).trans (Hall.out j hlt)
          generalize hv : [a1, b1, c1].getD j 0 = v at *
          have Hv := hid hv
          clear hv
          go_upto_region 7 with (fail)
          go_cut [99] (fun s99 wx => s99 = .bool (decide (¬ ROk L.length q [a1, b1, c1] j)) ∧ Hid (Below wc.heap.size wc wx))
          case first =>
            by_cases hjq : j < q
            · have e0 : decide ((j : Int) < (q : Int)) = true := by simpa using hjq
              have e0' : decide ((q : Int) ≤ (j : Int)) = false := by simpa using hjq
              have n0 : decide (j < q) = true := by simpa using hjq
              have n0' : decide (q ≤ j) = false := by simpa using hjq
              by_cases hv1 : v < 1
              · have e1 : decide (v < 1) = true := by simpa using hv1
                go_quiet (fail)
                go_wp2_with fail
                go_meet
                exact ⟨congrArg Value.bool (decide_eq_true (rok_not Hv.out (.inl ⟨hjq, .inl hv1⟩))).symm, hid (below_drewN Hb.out _)⟩
              have e1 : decide (v < 1) = false := by simpa using hv1
              by_cases hv2 : (L.length : Int) < v
              · have e2 : decide ((L.length : Int) < v) = true := by simpa using hv2
                go_quiet (fail)
                go_wp2_with fail
                go_meet
                exact ⟨congrArg Value.bool (decide_eq_true (rok_not Hv.out (.inl ⟨hjq, .inr hv2⟩))).symm, hid (below_drewN Hb.out _)⟩
              have e2 : decide ((L.length : Int) < v) = false := by simpa using hv2
              go_quiet (fail)
              go_wp2_with fail
              go_meet
              exact ⟨congrArg Value.bool (decide_eq_false (fun h => h (rok_of Hv.out (fun _ => by omega) (fun h => by omega)))).symm, hid (below_drewN Hb.out _)⟩
            · have e0 : decide ((j : Int) < (q : Int)) = false := by simp; omega
              have e0' : decide ((q : Int) ≤ (j : Int)) = true := by simp; omega
              have n0 : decide (j < q) = false := by simpa using hjq
              have n0' : decide (q ≤ j) = true := by simp; omega
              by_cases hv0 : v = 0
              · subst hv0
                go_quiet (fail)
                go_wp2_with fail
                go_meet
                exact ⟨congrArg Value.bool (decide_eq_false (fun h => h (rok_of Hv.out (fun h => by omega) (fun _ => rfl)))).symm, hid (below_drewN Hb.out _)⟩
              · have e1 : (v == 0) = false := by simpa using hv0
                have e1' : (v != 0) = true := by rw [bne_iff_ne]; exact hv0
                go_quiet (fail)
                go_wp2_with fail
                go_meet
                exact ⟨congrArg Value.bool (decide_eq_true (rok_not Hv.out (.inr ⟨by omega, hv0⟩))).symm, hid (below_drewN Hb.out _)⟩
          case rest =>
            obtain ⟨rfl, Hb'⟩ := hcut
            clear r0 r3 r4 rl hc Hb
            by_cases hok : ROk L.length q [a1, b1, c1] j
            · have hd : decide (¬ ROk L.length q [a1, b1, c1] j) = false := decide_eq_false fun h => h hok
              rw [hd]
              have Hok := hid hok
              clear hok hd
              go_wp2_with fail
              go_roundw
              case rel => exact ⟨j + 1, by omega, by go_num, Hb', hid fun r hr => by
                by_cases hrj : r < j
                · exact hin.out r hrj
                · obtain rfl : r = j := by omega
                  exact Hok.out⟩
              case measure => simp [intOf]; omega
            · have hd : decide (¬ ROk L.length q [a1, b1, c1] j) = true := decide_eq_true hok
              rw [hd]
              have Hok := hid hok
              clear hok hd
              go_wp2_with fail
              go_ret
              exact ⟨ret_bool (decide_eq_false fun h => Hok.out (by rw [← Hq.out]; exact ((rmay_iff Hnb.out).1 h).1 j hlt)).symm, by first | exact Hbw.out.trans (Hb'.out.mono Hbw.out.size) | (rw [← hB]; exact Hbw.out.trans (Hb'.out.mono Hbw.out.size))⟩
        · obtain rfl : j = 3 := by omega
          by_cases h4 : k = 4
          · subst h4
            by_cases h5 : a1 ≤ b1
            · have e5 : decide (a1 ≤ b1) = true := by simpa using h5
              have H5 := hid h5
              clear h5
              go_wp2_with fail
              go_ret
              exact ⟨ret_bool (decide_eq_true ((rmay_iff Hnb.out).2 ⟨by rw [Hq.out]; exact hin.out, .inr H5.out⟩)).symm, by first | exact Hbw.out.trans (Hb.out.mono Hbw.out.size) | (rw [← hB]; exact Hbw.out.trans (Hb.out.mono Hbw.out.size))⟩
            · have e5 : decide (a1 ≤ b1) = false := by simpa using h5
              have H5 := hid h5
              clear h5
              go_wp2_with fail
              go_ret
              exact ⟨ret_bool (decide_eq_false fun h => (((rmay_iff Hnb.out).1 h).2.elim (fun h => h rfl) (fun h => absurd h (by have := H5.out; omega)))).symm, by first | exact Hbw.out.trans (Hb.out.mono Hbw.out.size) | (rw [← hB]; exact Hbw.out.trans (Hb.out.mono Hbw.out.size))⟩
          have e4 : (k == 4) = false := by simpa using h4
          have H4 := hid h4
          clear h4
          go_wp2_with fail
          go_ret
          exact ⟨ret_bool (decide_eq_true ((rmay_iff Hnb.out).2 ⟨by rw [Hq.out]; exact hin.out, .inl H4.out⟩)).symm, by first | exact Hbw.out.trans (Hb.out.mono Hbw.out.size) | (rw [← hB]; exact Hbw.out.trans (Hb.out.mono Hbw.out.size))⟩
end Go.Proofs.Ytpcfmafokkffgaa
