/-
  What the laws of layer 8 share, more: within; what can be made reckoned out; the calls whose answers the document fixes.
-/
import Derived.Test.YtbaliaodioflfaaKnowG
import Derived.Test.YtbaliaodioflfaaDhRoom
namespace Go.Proofs.Ytbaliaodioflfaa
open Go.RowKit

theorem Hd.row_at {W w : World} {v : Value} {n : Nat} {ks : List Int} {Rs : List Res} (h : Hd W w (RowR 3 1 v n (nums .i64 ks) :: Rs)) : ∃ ad cap, v = .slice ad n cap ∧ n = ks.length ∧ n ≤ maxLen ∧ IntsAt w ad ks := by
  obtain ⟨ad, cap, e, hn, hm, hk⟩ := h.row_ks
  refine ⟨ad, cap, e, hn, hm, ?_⟩
  cases ks with
  | nil => exact .inl rfl
  | cons k ks =>
    obtain ⟨g, o, ha, _⟩ := hk 0 k rfl
    refine .inr ⟨g, o, ha, fun j hj => ?_⟩
    obtain ⟨g', o', ha', hc⟩ := hk j ((k :: ks)[j]) (List.getElem?_eq_getElem hj)
    rw [ha] at ha'
    simp only [Option.some.injEq, Addr.mk.injEq, and_true] at ha'
    obtain ⟨rfl, rfl⟩ := ha'
    simpa [List.getD, List.getElem?_eq_getElem hj] using hc

/-- Is each of some among others? -/
def withinB (xs ys : List Int) : Bool := decide (∀ x ∈ xs, x ∈ ys)

set_option maxRecDepth 100000 in
set_option maxHeartbeats 8000000 in
theorem within_calls {xs ys : List Int} {a1 a2 : Option Addr} {n1 c1 n2 c2 : Nat} {w : World} (h1 : IntsAt w a1 xs) (h2 : IntsAt w a2 ys) (e1 : n1 = xs.length) (e2 : n2 = ys.length) (hm1 : n1 ≤ 4611686018427387904) (hm2 : n2 ≤ 4611686018427387904) :
    Calls Try.prog 46 #[.slice a1 n1 c1, .slice a2 n2 c2] w fun e w' => e = .returned (.bool (withinB xs ys)) ∧ Below w.heap.size w w' := by
  have E1 := hid e1
  have E2 := hid e2
  have H1 := hid h1
  have H2 := hid h2
  clear e1 e2 h1 h2
  go_enter Try.func46, Try.ntmps46
  go_wp2_with fail
  go_loopw [5] (fun i wr => ∃ j : Nat, j ≤ n1 ∧ i = .int .i64 j ∧ Below w.heap.size w wr ∧ Hid (∀ r, r < j → xs.getD r 0 ∈ ys)) (fun i _ => n1 - (intOf i).toNat)
  case atStart => exact ⟨0, Nat.zero_le _, rfl, Below.refl _ _, hid fun r hr => by omega⟩
  case round =>
    obtain ⟨j, hj, rfl, hb, hin⟩ := hrel
    by_cases hlt : j < n1
    · have hd1 : decide ((j : Int) < (n1 : Int)) = true := by simp; omega
      have hd1' : decide (j < n1) = true := by simp; omega
      have hjx : j < xs.length := by rw [← E1.out]; exact hlt
      obtain ⟨g1, o1, rfl, hc1⟩ := H1.out.resolve_left fun e => by rw [e] at hjx; simp at hjx
      have d1 := hc1 j hjx
      have D1 := hid d1
      have Hc1 := hid hc1
      have Hjx := hid hjx
      clear d1 hc1 hjx hlt
      obtain ⟨x, hx⟩ : ∃ x, xs.getD j 0 = x := ⟨_, rfl⟩
      rw [hx] at D1
      have Hx := hid hx
      clear hx
      have zj0 : (0 : Int) ≤ (j : Int) := by omega
      have zj1 : (j : Int) < (n1 : Int) := by simpa using hd1
      obtain ⟨wo, hwo⟩ : ∃ wo : World, wo = wr := ⟨_, rfl⟩
      rw [← hwo] at hb ⊢
      clear hwo wr
      go_wp2_with fail
      go_loopw [6, 7] (fun p i wr => ∃ (r : Nat) (q : Bool), r ≤ n2 ∧ i = .int .i64 r ∧ p = .bool q ∧ Below w.heap.size w wr ∧ Hid (q = true ↔ ∃ s, s < r ∧ ys.getD s 0 = x)) (fun _ i _ => n2 - (intOf i).toNat)
      case atStart => exact ⟨0, false, Nat.zero_le _, rfl, rfl, hb, hid (by simp)⟩
      case round =>
        clear hb
        obtain ⟨r, q, hr, rfl, rfl, hb, hq⟩ := hrel
        by_cases hrt : r < n2
        · have hd2 : decide ((r : Int) < (n2 : Int)) = true := by simp; omega
          have hd2' : decide (r < n2) = true := by simp; omega
          have hry : r < ys.length := by rw [← E2.out]; exact hrt
          obtain ⟨g2, o2, rfl, hc2⟩ := H2.out.resolve_left fun e => by rw [e] at hry; simp at hry
          have d2 := hc2 r hry
          have zr0 : (0 : Int) ≤ (r : Int) := by omega
          have zr1 : (r : Int) < (n2 : Int) := by simpa using hd2
          have k1 : ∀ y : Later wr, y.w.cell? ⟨g1, o1 + j, none⟩ = some (.int .i64 x) := fun y => y.cell ((hb.cell (World.block_lt_of_cell? w _ D1.out)).trans D1.out)
          have k2 : ∀ y : Later wr, y.w.cell? ⟨g2, o2 + r, none⟩ = some (.int .i64 (ys.getD r 0)) := fun y => y.cell ((hb.cell (World.block_lt_of_cell? w _ d2)).trans d2)
          have Hst : Hid ((q || (ys.getD r 0 == x)) = true ↔ ∃ s, s < r + 1 ∧ ys.getD s 0 = x) := hid (by
            rw [Bool.or_eq_true, hq.out, beq_iff_eq]
            constructor
            · rintro (⟨s, h1, h2⟩ | h)
              · exact ⟨s, by omega, h2⟩
              · exact ⟨r, by omega, h⟩
            · rintro ⟨s, h1, h2⟩
              by_cases e : s = r
              · subst e; exact .inr h2
              · exact .inl ⟨s, by omega, h2⟩)
          clear d2 hc2 hrt hry
          generalize ys.getD r 0 = y at *
          cases q
          · go_wp2_with fail
            refine wp_region_calm (by kernel_rfl) (by kernel_rfl) ?_
            repeat (go_big_quiet_step (fail))
            refine wpQuiet_nil ?_
            intro w3 hw3
            obtain ⟨⟨w3, hb3⟩, rfl⟩ := hw3
            clear k1 k2
            have hb4 := hb.trans (hb3.mono hb.size)
            clear hb3
            go_wp2_with fail
            go_roundw
            case rel => exact ⟨r + 1, (y == x), by omega, by go_num, by first | rfl | simp, hb4, by simpa using Hst⟩
            case measure => simp [intOf]; omega
          · go_wp2_with fail
            refine wp_region_calm (by kernel_rfl) (by kernel_rfl) ?_
            repeat (go_big_quiet_step (fail))
            refine wpQuiet_nil ?_
            intro w3 hw3
            obtain ⟨⟨w3, hb3⟩, rfl⟩ := hw3
            clear k1 k2
            have hb4 := hb.trans (hb3.mono hb.size)
            clear hb3
            go_wp2_with fail
            go_roundw
            case rel => exact ⟨r + 1, true, by omega, by go_num, rfl, hb4, by simpa using Hst⟩
            case measure => simp [intOf]; omega
        · have hd2 : decide ((r : Int) < (n2 : Int)) = false := by simp; omega
          have hd2' : decide (r < n2) = false := by simp; omega
          have Hr : Hid (r = ys.length) := hid (by rw [← E2.out]; omega)
          have hmem : (∃ s, s < ys.length ∧ ys.getD s 0 = x) ↔ x ∈ ys := by
            rw [List.mem_iff_getElem]
            constructor
            · rintro ⟨s, h1, h2⟩
              exact ⟨s, h1, by simpa [List.getD, List.getElem?_eq_getElem h1] using h2⟩
            · rintro ⟨s, h1, h2⟩
              exact ⟨s, h1, by simpa [List.getD, List.getElem?_eq_getElem h1] using h2⟩
          have Hmem := hid hmem
          clear hrt hmem
          cases q
          · have Hno : Hid (withinB xs ys = false) := hid (by
              have h0 := hq.out
              rw [Hr.out, Hmem.out] at h0
              refine decide_eq_false fun hall => ?_
              have := h0.2 (hall x (by rw [← Hx.out]; simp only [List.getD, List.getElem?_eq_getElem Hjx.out, Option.getD_some]; exact List.getElem_mem _))
              cases this)
            go_wp2_with fail
            go_ret
            exact ⟨by rw [Hno.out]; rfl, hb⟩
          · have Hy : Hid (∀ r, r < j + 1 → xs.getD r 0 ∈ ys) := hid fun s hs => by
              by_cases e : s = j
              · subst e
                rw [Hx.out, ← Hmem.out, ← Hr.out]
                exact hq.out.1 rfl
              · exact hin.out s (by omega)
            go_wp2_with fail
            go_roundw
            case rel => exact ⟨j + 1, by omega, by go_num, hb, Hy⟩
            case measure => simp [intOf]; omega
    · have hd1 : decide ((j : Int) < (n1 : Int)) = false := by simp; omega
      have hd1' : decide (j < n1) = false := by simp; omega
      have Hy : Hid (withinB xs ys = true) := hid (decide_eq_true fun x hx => by
        obtain ⟨i, hi, rfl⟩ := List.getElem_of_mem hx
        have := hin.out i (by rw [← E1.out] at hi; omega)
        simpa [List.getD, List.getElem?_eq_getElem hi] using this)
      clear hlt
      go_wp2_with fail
      go_ret
      exact ⟨by rw [Hy.out]; rfl, hb⟩

/-- What can be made, reckoned out round by round. -/
def passM (L : List T) (dh kem : Bool) (cs : List Bool) : List Bool := (List.range L.length).foldl (fun (cs : List Bool) (i : Nat) => (visit L dh kem cs ((i : Int) + 1) (L.getD i zeroT)).2) cs
def reachM (L : List T) (dh kem : Bool) (ks : List Int) : Nat → List Bool
  | 0 => ks.foldl lrn (List.replicate (L.length + 1) false)
  | n + 1 => passM L dh kem (reachM L dh kem ks n)
def stillM (L : List T) (dh kem : Bool) (cs : List Bool) : Bool := (List.range L.length).all fun (i : Nat) => !(visit L dh kem cs ((i : Int) + 1) (L.getD i zeroT)).1

theorem at_nth {L : List T} {i : Nat} (h : i < L.length) : At L ((i : Int) + 1) (L.getD i zeroT) := ⟨by omega, by omega, by rw [show ((i : Int) + 1 - 1).toNat = i by omega, List.getElem?_eq_getElem h]; simp [List.getD, List.getElem?_eq_getElem h]⟩

theorem reach_marks {L : List T} {dh kem : Bool} {ks : List Int} (g : Good L) (hin : ∀ x ∈ ks, 1 ≤ x ∧ x ≤ L.length) : ∀ n, Marks L dh kem (fun x => x ∈ ks) (reachM L dh kem ks n)
  | 0 => by
    have key : ∀ j, j ≤ ks.length → MarksOf (L.length + 1) ks j ((ks.take j).foldl lrn (List.replicate (L.length + 1) false)) := by
      intro j
      induction j with
      | zero => intro _; exact marksOf_start _ _
      | succ j ih =>
        intro hj
        have hx := List.getElem?_eq_getElem (show j < ks.length by omega)
        have := hin _ (List.getElem_mem (show j < ks.length by omega))
        have hs := (ih (by omega)).step hx this.1 (by omega)
        rw [List.take_add_one, hx, List.foldl_append]
        exact hs
    have := key ks.length (Nat.le_refl _)
    rw [List.take_length] at this
    exact this.marks rfl
  | n + 1 => by
    have ih := reach_marks (dh := dh) (kem := kem) g hin n
    have key : ∀ (l : List Nat) (cs : List Bool), (∀ i ∈ l, i < L.length) → Marks L dh kem (fun x => x ∈ ks) cs → Marks L dh kem (fun x => x ∈ ks) (l.foldl (fun (cs : List Bool) (i : Nat) => (visit L dh kem cs ((i : Int) + 1) (L.getD i zeroT)).2) cs) := by
      intro l
      induction l with
      | nil => intro cs _ h; exact h
      | cons i l ih2 =>
        intro cs hl h
        exact ih2 _ (fun i hi => hl i (by simp [hi])) (visit_marks g h (at_nth (hl i (by simp))))
    exact key _ _ (fun i hi => List.mem_range.1 hi) ih

theorem reach_is {L : List T} {dh kem : Bool} {ks : List Int} (g : Good L) (hin : ∀ x ∈ ks, 1 ≤ x ∧ x ≤ L.length) (n : Nat) (hs : stillM L dh kem (reachM L dh kem ks n) = true) (x : Int) : on (reachM L dh kem ks n) x = true ↔ Der L dh kem (fun x => x ∈ ks) x := by
  have hm := reach_marks (dh := dh) (kem := kem) g hin n
  refine ⟨hm.der x, fun hd => der_of_clo (fun y t hat => ?_) hm.knows hd⟩
  have hi : (y - 1).toNat < L.length := by have := hat.lo; have := hat.hi; omega
  have h1 := List.all_eq_true.1 hs (y - 1).toNat (List.mem_range.2 hi)
  have e : (((y - 1).toNat : Nat) : Int) + 1 = y := by have := hat.lo; omega
  have e2 : L.getD (y - 1).toNat zeroT = t := by rw [List.getD_eq_getElem?_getD, hat.is]; rfl
  rw [e, e2] at h1
  exact (visit_false (by simpa using h1)).2

theorem allOf_is {L : List T} {dh kem : Bool} {ks : List Int} (g : Good L) (hin : ∀ x ∈ ks, 1 ≤ x ∧ x ≤ L.length) (n : Nat) (hs : stillM L dh kem (reachM L dh kem ks n) = true) : allOf L dh kem (fun x => x ∈ ks) = markedTo (reachM L dh kem ks n) (L.length + 1) :=
  (markedTo_all (reach_is g hin n hs) fun h => by have := Der.name g hin h; omega).symm
end Go.Proofs.Ytbaliaodioflfaa
