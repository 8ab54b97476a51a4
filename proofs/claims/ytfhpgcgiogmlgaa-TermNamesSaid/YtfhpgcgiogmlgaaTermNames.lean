/-
  TermNames returns true, and writes nothing that was there. For every input.
-/
import Derived.Test.YtfhpgcgiogmlgaaOwn
import Derived.Test.YtfhpgcgiogmlgaaArgsC
import Derived.Test.YtfhpgcgiogmlgaaLawB
namespace Go.Proofs.Ytfhpgcgiogmlgaa
open Go.RowKit

/-- The last place, from 1 on, of a number among the first r. -/
def lastPlace (fs : List Int) (q : Int) : Nat → Int
  | 0 => 0
  | r + 1 => if fs.getD r 0 = q then (r : Int) + 1 else lastPlace fs q r

theorem lastPlace_range (fs : List Int) (q : Int) : ∀ r : Nat, 0 ≤ lastPlace fs q r ∧ lastPlace fs q r ≤ r
  | 0 => by simp [lastPlace]
  | r + 1 => by
    have := lastPlace_range fs q r
    unfold lastPlace
    split <;> omega
theorem lastPlace_zero {fs : List Int} {q : Int} : ∀ {r : Nat}, r ≤ fs.length → lastPlace fs q r = 0 → ∀ i, i < r → fs.getD i 0 ≠ q
  | 0, _, _, i, hi => by omega
  | r + 1, hr, h, i, hi => by
    unfold lastPlace at h
    split at h
    · omega
    · rename_i hne
      by_cases hir : i = r
      · subst hir; exact hne
      · exact lastPlace_zero (by omega) h i (by omega)
theorem lastPlace_at {fs : List Int} {q : Int} : ∀ {r : Nat}, lastPlace fs q r ≠ 0 → ∃ i : Nat, i < r ∧ lastPlace fs q r = (i : Int) + 1 ∧ fs.getD i 0 = q
  | 0, h => by simp [lastPlace] at h
  | r + 1, h => by
    unfold lastPlace at h ⊢
    split
    · rename_i e; exact ⟨r, by omega, rfl, e⟩
    · rename_i hne
      rw [if_neg hne] at h
      obtain ⟨i, h1, h2, h3⟩ := lastPlace_at h
      exact ⟨i, by omega, h2, h3⟩

theorem non_mem {fs : List Int} {q : Int} (h : nonT q ∈ fs.map nonT) : q ∈ fs := by
  obtain ⟨x, hx, e⟩ := List.mem_map.1 h
  have : x = q := by simpa [nonT] using e
  exact this ▸ hx
theorem non_at {fs : List Int} {i : Nat} (hi : i < fs.length) : At (fs.map nonT) ((i : Int) + 1) (nonT (fs.getD i 0)) := by
  refine ⟨by omega, by simp; omega, ?_⟩
  rw [show ((i : Int) + 1 - 1).toNat = i by omega]
  simp [List.getD, List.getElem?_eq_getElem hi]
theorem non_good {fs : List Int} (h : Good (fs.map nonT)) {q : Int} (hq : q ∉ fs) : Good ((fs ++ [q]).map nonT) := by
  rw [List.map_append]
  exact h.snoc (may_non q) fun hm => hq (non_mem hm)
theorem put_non_new {fs : List Int} {q : Int} (hq : q ∉ fs) (hl : fs.length < 300) : put 300 (fs.map nonT) ⟨2, ⟨#[]⟩, q, 0, 0, 0⟩ = ((fs.length : Int) + 1, 0, (fs ++ [q]).map nonT) := by
  have := putp_new (m := 300) (L := fs.map nonT) (t := nonT q) (may_non q) (fun hm => hq (non_mem hm)) (by simp; omega)
  rw [show (⟨2, ⟨#[]⟩, q, 0, 0, 0⟩ : T) = nonT q from rfl, this]
  simp

set_option maxRecDepth 100000 in
set_option maxHeartbeats 8000000 in
theorem termNames_walk (ad : Option Addr) (len cap : Nat) (zs : List Int) (W : World) (hlen : len = zs.length) (hml : len ≤ maxLen) (hzs : NumsIn .u8 W ad zs) :
    Calls Try.prog 9 #[.slice ad len cap] W fun e w' => e = .returned (.bool true) ∧ Below W.heap.size W w' := by
  have Hlen := hid hlen
  have Hzs := hid hzs
  clear hlen hzs
  have hmax := hml
  unfold maxLen at hmax
  go_enter Try.func9, Try.ntmps9
  go_wp2_with fail
  refine (new_calls (Hd.refl W) (by decide) (by decide)).mono ?_
  rintro e w1 ⟨b, rfl, h1⟩
  have H0 := hid h1
  clear h1
  go_wp2_with fail
  go_loopw [5, 6] (fun v i wr => ∃ j : Nat, j ≤ len ∧ j ≤ 60 ∧ i = .int .i64 j ∧ ∃ (fs : List Int) (n c : Nat) (a : Option Addr), v = .slice a n c ∧ n ≤ j ∧ Hid (n = fs.length) ∧ Hid (Hd W wr [RowR 5 1 (.slice a n c) n (nums .u8 fs), Sto b (fs.map nonT) 300])) (fun _ i _ => len - (intOf i).toNat)
  case atStart => exact ⟨0, Nat.zero_le _, Nat.zero_le _, rfl, [], 0, 0, _, rfl, Nat.le_refl _, hid rfl, hid H0.out.row_new⟩
  case round =>
    clear H0
    obtain ⟨j, hj, hj60, rfl, fs, n, c, a, rfl, hn, Hn, H⟩ := hrel
    obtain ⟨wo, rfl⟩ : ∃ wo : World, wo = wr := ⟨_, rfl⟩
    by_cases hlt : j < len ∧ j < 60
    · have hd1 : decide (j < len) = true := by simpa using hlt.1
      have hd2 : decide ((j : Int) < 60) = true := by simp; omega
      obtain ⟨q, hq⟩ : ∃ q, zs[j]? = some q := ⟨zs[j]'(by rw [← Hlen.out]; exact hlt.1), List.getElem?_eq_getElem _⟩
      obtain ⟨q0, q1, g, o, rfl, hc⟩ := Hzs.out j q hq
      have q2 : 0 ≤ q := q0
      have q3 : q ≤ 255 := q1
      have hB : ∀ wx, Below W.heap.size W wx → wx.cell? ⟨g, o + j, none⟩ = some (.int .u8 q) := fun wx hb => (hb.cell (World.block_lt_of_cell? W _ hc)).trans hc
      have HB := hid hB
      have hj0 : (0 : Int) ≤ (j : Int) := by omega
      have hj1 : (j : Int) < (len : Int) := by omega
      have hn9 : n ≤ 60 := by omega
      have hj60' : j < 60 := hlt.2
      clear hc hq hB hlt q0 q1
      go_wp2_with fail
      go_loopw [7, 8] (fun nm k wr => ∃ r : Nat, r ≤ n ∧ k = .int .i64 r ∧ nm = .int .i64 (lastPlace fs q r) ∧ Hid (Below wo.heap.size wo wr)) (fun _ k _ => n - (intOf k).toNat)
      case atStart => exact ⟨0, Nat.zero_le _, rfl, rfl, hid (Below.refl _ _)⟩
      case round =>
        obtain ⟨r, hr, rfl, rfl, Hb⟩ := hrel
        have Hi := hid (H.out.still Hb.out)
        by_cases hrl : r < n
        · have e1 : decide (r < n) = true := by simpa using hrl
          obtain ⟨g2, c2, he, d2⟩ := Hi.out.row_cell (nums_get (k := .u8) (zs := fs) (j := r) (by rw [← Hn.out]; exact hrl))
          simp only [Value.slice.injEq, true_and] at he
          obtain ⟨rfl, rfl⟩ := he
          have hl : lastPlace fs q (r + 1) = if fs.getD r 0 = q then (r : Int) + 1 else lastPlace fs q r := rfl
          generalize fs.getD r 0 = p at *
          have k1 : ∀ x : Later wr, x.w.cell? ⟨g2, r, none⟩ = some (.int .u8 p) := fun x => x.cell d2
          have k2 : ∀ x : Later wr, x.w.cell? ⟨g, o + j, none⟩ = some (.int .u8 q) := fun x => HB.out _ (Hi.out.still x.below).below
          have hr0 : (0 : Int) ≤ (r : Int) := by omega
          have hr1 : (r : Int) < (n : Int) := by omega
          clear d2
          by_cases hpq : p = q
          · have e2 : (p == q) = true := by simpa using hpq
            rw [if_pos hpq] at hl
            have Hl := hid hl
            clear hl hpq
            go_wp2_with fail
            refine wp_region_calm (by kernel_rfl) (by kernel_rfl) ?_
            repeat (go_big_quiet_step (fail))
            refine wpQuiet_nil ?_
            intro w3 hw3
            obtain ⟨⟨w3, hb3⟩, rfl⟩ := hw3
            clear k1 k2
            go_wp2_with fail
            go_roundw
            case rel => exact ⟨r + 1, by omega, by go_num, by rw [Hl.out], hid (Hb.out.trans (hb3.mono Hb.out.size))⟩
            case measure => simp [intOf]; omega
          · have e2 : (p == q) = false := by simpa using hpq
            rw [if_neg hpq] at hl
            have Hl := hid hl
            clear hl hpq
            go_wp2_with fail
            refine wp_region_calm (by kernel_rfl) (by kernel_rfl) ?_
            repeat (go_big_quiet_step (fail))
            refine wpQuiet_nil ?_
            intro w3 hw3
            obtain ⟨⟨w3, hb3⟩, rfl⟩ := hw3
            clear k1 k2
            go_wp2_with fail
            go_roundw
            case rel => exact ⟨r + 1, by omega, by go_num, by rw [Hl.out], hid (Hb.out.trans (hb3.mono Hb.out.size))⟩
            case measure => simp [intOf]; omega
        · obtain rfl : r = n := by omega
          have e1 : decide (r < r) = false := by simp
          have hlr := lastPlace_range fs q r
          have hz1 := @lastPlace_zero fs q r (by rw [← Hn.out]; exact Nat.le_refl _)
          have hz2 := @lastPlace_at fs q r
          obtain ⟨p, hp⟩ : ∃ p, lastPlace fs q r = p := ⟨_, rfl⟩
          rw [hp] at hlr hz1 hz2 ⊢
          have c0 := HB.out _ Hi.out.below
          clear hp H Hb
          by_cases hm : p = 0
          · have e2 : (p == 0) = true := by simpa using hm
            have hnot : q ∉ fs := fun hmem => by
              obtain ⟨i, hi, he⟩ := List.getElem_of_mem hmem
              refine hz1 hm i (by rw [Hn.out]; exact hi) ?_
              simp [List.getD, List.getElem?_eq_getElem hi, he]
            have Hp := hid (put_non_new hnot (by rw [← Hn.out]; omega))
            clear hz1 hz2 hm hnot hlr
            obtain ⟨i0, hi0, hz0, hs0, hy0⟩ := info_u8
            have Hi0 := hid hi0
            have Hz0 := hid hz0
            have Hs0 := hid hs0
            have Hy0 := hid hy0
            clear hi0 hz0 hs0 hy0
            go_wp2_with (at_builtin; refine append_num (k := .u8) Try.underlying61 Hi0.out Hz0.out Hs0.out Hy0.out (by decide) rfl (.tmp 53) (.tmp 58) rfl Hi.out (by rfl) q (by rfl) (by omega) ?_; intro g3 c3 w3 h3; have c1 := HB.out _ h3.below)
            obtain ⟨r1, hr1⟩ : ∃ r1, r + 1 = r1 := ⟨_, rfl⟩
            rw [hr1] at h3 ⊢
            have hr61 : r1 ≤ 61 := by omega
            have hcast : (r : Int) + 1 = (r1 : Int) := by omega
            rw [hcast]
            have Hp2 : Hid (put 300 (fs.map nonT) ⟨2, ⟨#[]⟩, q, 0, 0, 0⟩ = ((r1 : Int), 0, (fs ++ [q]).map nonT)) := hid (by rw [Hp.out, ← Hn.out, hcast])
            have Hn1 : Hid (r1 = (fs ++ [q]).length) := hid (by simp; rw [← Hn.out]; omega)
            have H3 := hid h3.swap
            have Hr1 := hid hr1
            have hat : At ((fs ++ [q]).map nonT) (r1 : Int) (nonT q) := by
              have := non_at (fs := fs ++ [q]) (i := fs.length) (by simp)
              rw [← Hn.out, hcast] at this
              simpa [List.getD, Hn.out] using this
            have Hat := hid hat
            clear h3 hr1 hcast c0 Hp hat Hi
            refine (put_calls 2 ⟨#[]⟩ q 0 0 0 H3.out).mono ?_
            rw [Hp2.out]
            rintro e w4 ⟨rfl, h4⟩
            have H4 := hid h4
            clear h4 H3 c1
            go_wp2_with fail
            refine (get_at H4.out Hat.out).mono ?_
            simp only [nonT]
            rintro e w5 ⟨rfl, hb5⟩
            have H5 := hid ((H4.out.still hb5).box (.cells #[.int .i64 2, .string ⟨#[]⟩, .int .u64 q, .int .i64 0, .int .i64 0, .int .i64 0] 32))
            clear hb5 H4
            have hk0 := H5.out.blk
            go_wp2_with fail
            generalize hw6 : w5.alloc (.cells #[.int .i64 2, .string ⟨#[]⟩, .int .u64 q, .int .i64 0, .int .i64 0, .int .i64 0] 32) = w6 at *
            clear hw6
            have d0 : ∀ x : Later w6, x.w.cell? ⟨w5.heap.size, 0, none⟩ = some (.int .i64 2) := fun x => x.cell (by rw [cell_of_heap hk0]; rfl)
            have d1 : ∀ x : Later w6, x.w.cell? ⟨w5.heap.size, 1, none⟩ = some (.string ⟨#[]⟩) := fun x => x.cell (by rw [cell_of_heap hk0]; rfl)
            have d2 : ∀ x : Later w6, x.w.cell? ⟨w5.heap.size, 2, none⟩ = some (.int .u64 q) := fun x => x.cell (by rw [cell_of_heap hk0]; rfl)
            have d3 : ∀ x : Later w6, x.w.cell? ⟨w5.heap.size, 3, none⟩ = some (.int .i64 0) := fun x => x.cell (by rw [cell_of_heap hk0]; rfl)
            have d4 : ∀ x : Later w6, x.w.cell? ⟨w5.heap.size, 4, none⟩ = some (.int .i64 0) := fun x => x.cell (by rw [cell_of_heap hk0]; rfl)
            have d5 : ∀ x : Later w6, x.w.cell? ⟨w5.heap.size, 5, none⟩ = some (.int .i64 0) := fun x => x.cell (by rw [cell_of_heap hk0]; rfl)
            have d6 : ∀ x : Later w6, x.w.cell? ⟨g, o + j, none⟩ = some (.int .u8 q) := fun x => HB.out _ (H5.out.still x.below).below
            have HL : Hid (∀ x : Later w6, Calls Try.prog 23 #[.pointer (some ⟨b, 0, none⟩)] x.w fun e w' => e = .returned (.int .i64 r1) ∧ x.w = w') := hid fun x => by { have := len_at (H5.out.swap.still x.below); rw [List.length_map, ← Hn1.out] at this; exact this }
            clear hk0
            refine wp_region_calm (by kernel_rfl) (by kernel_rfl) ?_
            repeat (go_big_quiet_step ((go_at_call 23; exact Calls.calm_same (HL.out _))))
            refine wpQuiet_nil ?_
            intro w7 hw7
            obtain ⟨⟨w7, hb7⟩, rfl⟩ := hw7
            have H7 := hid (H5.out.still hb7).drop.swap
            clear d0 d1 d2 d3 d4 d5 d6 hb7 H5
            go_wp2_with fail
            go_roundw
            case rel => exact ⟨j + 1, by omega, by omega, by go_num, fs ++ [q], r1, c3, _, rfl, by have := Hr1.out; omega, Hn1, H7⟩
            case measure => simp [intOf]; omega
          · have e2 : (p == 0) = false := by simpa using hm
            obtain ⟨i, hi1, hi2, hi3⟩ := hz2 hm
            have hat : At (fs.map nonT) p (nonT q) := by
              have := non_at (fs := fs) (i := i) (by rw [← Hn.out]; exact hi1)
              rw [hi3, ← hi2] at this
              exact this
            obtain ⟨lb, db, mb, lc, dc, hs⟩ := Hi.out.swap.sto
            have Hp2 := hid (put_known (m := 300) hs.good hat)
            have Hat := hid hat
            clear hz1 hz2 hm hi1 hi2 hi3 hat hs
            have H3 := hid Hi.out.swap
            go_wp2_with fail
            refine (put_calls 2 ⟨#[]⟩ q 0 0 0 H3.out).mono ?_
            rw [show (⟨2, ⟨#[]⟩, q, 0, 0, 0⟩ : T) = nonT q from rfl, Hp2.out]
            rintro e w4 ⟨rfl, h4⟩
            have H4 := hid h4
            clear h4 H3 c0 Hi
            go_wp2_with fail
            refine (get_at H4.out Hat.out).mono ?_
            simp only [nonT]
            rintro e w5 ⟨rfl, hb5⟩
            have H5 := hid ((H4.out.still hb5).box (.cells #[.int .i64 2, .string ⟨#[]⟩, .int .u64 q, .int .i64 0, .int .i64 0, .int .i64 0] 32))
            clear hb5 H4
            have hk0 := H5.out.blk
            go_wp2_with fail
            generalize hw6 : w5.alloc (.cells #[.int .i64 2, .string ⟨#[]⟩, .int .u64 q, .int .i64 0, .int .i64 0, .int .i64 0] 32) = w6 at *
            clear hw6
            have d0 : ∀ x : Later w6, x.w.cell? ⟨w5.heap.size, 0, none⟩ = some (.int .i64 2) := fun x => x.cell (by rw [cell_of_heap hk0]; rfl)
            have d1 : ∀ x : Later w6, x.w.cell? ⟨w5.heap.size, 1, none⟩ = some (.string ⟨#[]⟩) := fun x => x.cell (by rw [cell_of_heap hk0]; rfl)
            have d2 : ∀ x : Later w6, x.w.cell? ⟨w5.heap.size, 2, none⟩ = some (.int .u64 q) := fun x => x.cell (by rw [cell_of_heap hk0]; rfl)
            have d3 : ∀ x : Later w6, x.w.cell? ⟨w5.heap.size, 3, none⟩ = some (.int .i64 0) := fun x => x.cell (by rw [cell_of_heap hk0]; rfl)
            have d4 : ∀ x : Later w6, x.w.cell? ⟨w5.heap.size, 4, none⟩ = some (.int .i64 0) := fun x => x.cell (by rw [cell_of_heap hk0]; rfl)
            have d5 : ∀ x : Later w6, x.w.cell? ⟨w5.heap.size, 5, none⟩ = some (.int .i64 0) := fun x => x.cell (by rw [cell_of_heap hk0]; rfl)
            have d6 : ∀ x : Later w6, x.w.cell? ⟨g, o + j, none⟩ = some (.int .u8 q) := fun x => HB.out _ (H5.out.still x.below).below
            have HL : Hid (∀ x : Later w6, Calls Try.prog 23 #[.pointer (some ⟨b, 0, none⟩)] x.w fun e w' => e = .returned (.int .i64 r) ∧ x.w = w') := hid fun x => by { have := len_at (H5.out.swap.still x.below); rw [List.length_map, ← Hn.out] at this; exact this }
            clear hk0
            refine wp_region_calm (by kernel_rfl) (by kernel_rfl) ?_
            repeat (go_big_quiet_step ((go_at_call 23; exact Calls.calm_same (HL.out _))))
            refine wpQuiet_nil ?_
            intro w7 hw7
            obtain ⟨⟨w7, hb7⟩, rfl⟩ := hw7
            have H7 := hid (H5.out.still hb7).drop.swap
            clear d0 d1 d2 d3 d4 d5 d6 hb7 H5
            go_wp2_with fail
            go_roundw
            case rel => exact ⟨j + 1, by omega, by omega, by go_num, fs, r, c, a, rfl, by omega, Hn, H7⟩
            case measure => simp [intOf]; omega
    · have hex : decide (j < len) = false ∨ (decide (j < len) = true ∧ decide ((j : Int) < 60) = false) := by
        by_cases h : j < len
        · right; exact ⟨by simpa using h, by simp; omega⟩
        · left; simpa using h
      clear hlt
      rcases hex with hd1 | ⟨hd1, hd2⟩
      all_goals
        go_wp2_with fail
        refine (fixed2_calls H.out).mono ?_
        rintro e w' ⟨rfl, h5⟩
        have H5 := hid h5
        clear h5
        go_wp2_with fail
        go_ret
        exact ⟨rfl, H5.out.below⟩
end Go.Proofs.Ytfhpgcgiogmlgaa
