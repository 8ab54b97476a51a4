/-
  Walks through layer 6 of the program: Mix, Chain. For every store and every names.
-/
import Derived.Test.YtbaliaodioflfaaKdf
namespace Go.Proofs.Ytbaliaodioflfaa
open Go.RowKit

theorem put_at {m : Int} {L L2 : List T} {t : T} {r : Int} (h : put m L t = (r, 0, L2)) : At L2 r t := by
  unfold put at h
  split at h
  · cases hf : find t L with
    | some i =>
      rw [hf] at h
      simp only [Prod.mk.injEq] at h
      obtain ⟨rfl, _, rfl⟩ := h
      exact find_at hf
    | none =>
      rw [hf] at h
      simp only at h
      split at h
      · simp at h
      · simp only [Prod.mk.injEq] at h
        obtain ⟨rfl, _, rfl⟩ := h
        exact at_snoc L t
  · simp at h

section
variable {W w : World} {Rs : List Res} {b E X S : Nat} {L : List T} {m hn : Int}

set_option maxRecDepth 100000 in
set_option maxHeartbeats 2000000 in
theorem mixd_bad {x : Int} (n : Int) (hx : ¬ x = 0) (h : Hd W w (Sto b L m :: Blk E (.cells #[.int .i64 x] 34 (0, 0)) :: Blk X (.cells #[.int .i64 hn] 3 (0, 0)) :: Blk S (.cells #[.pointer (some ⟨b, 0, none⟩)] 27 (0, 0)) :: Rs)) :
    Calls Try.prog 96 #[.int .u64 n, .pointer (some ⟨E, 0, none⟩), .pointer (some ⟨S, 0, none⟩), .pointer (some ⟨X, 0, none⟩)] w fun e w' => e = .returned (.int .i64 0) ∧ Hd W w' (Sto b L m :: Blk E (.cells #[.int .i64 x] 34 (0, 0)) :: Blk X (.cells #[.int .i64 hn] 3 (0, 0)) :: Blk S (.cells #[.pointer (some ⟨b, 0, none⟩)] 27 (0, 0)) :: Rs) := by
  have H := hid h
  have f0 : (x != 0) = true := by simpa using hx
  have hk := h.swap.blk
  have c0 := (cell_of_heap hk 0).trans (show _ = some (.int .i64 x) from rfl)
  clear h hx hk
  go_enter Try.func96, Try.ntmps96
  go_wp2_with fail
  go_ret
  exact ⟨rfl, H.out⟩

set_option maxRecDepth 100000 in
set_option maxHeartbeats 2000000 in
theorem mixd_ok (n : Int) {r1 r2 : Int} {L2 : List T} (hq : Hid (put m L (keyT hn n) = (r1, r2, L2))) (h : Hd W w (Sto b L m :: Blk E (.cells #[.int .i64 0] 34 (0, 0)) :: Blk X (.cells #[.int .i64 hn] 3 (0, 0)) :: Blk S (.cells #[.pointer (some ⟨b, 0, none⟩)] 27 (0, 0)) :: Rs)) :
    Calls Try.prog 96 #[.int .u64 n, .pointer (some ⟨E, 0, none⟩), .pointer (some ⟨S, 0, none⟩), .pointer (some ⟨X, 0, none⟩)] w fun e w' => e = .returned (.int .i64 r1) ∧ Hd W w' (Sto b L2 m :: Blk E (.cells #[.int .i64 r2] 34 (0, 0)) :: Blk X (.cells #[.int .i64 hn] 3 (0, 0)) :: Blk S (.cells #[.pointer (some ⟨b, 0, none⟩)] 27 (0, 0)) :: Rs) := by
  have H := hid h
  have hk := h.swap.blk
  have c0 := (cell_of_heap hk 0).trans (show _ = some (.int .i64 0) from rfl)
  have hk1 := h.third.blk
  have c1 := (cell_of_heap hk1 0).trans (show _ = some (.int .i64 hn) from rfl)
  have hk2 := h.fourth.blk
  have c2 := (cell_of_heap hk2 0).trans (show _ = some (.pointer (some ⟨b, 0, none⟩)) from rfl)
  clear h hk hk1 hk2
  go_enter Try.func96, Try.ntmps96
  go_wp2_with fail
  refine (derive_c hn n hq H.out).mono ?_
  rintro e w1 ⟨rfl, h1⟩
  have H1 := hid h1
  have hk := h1.swap.blk
  have d0 := (cell_of_heap hk 0).trans (show _ = some (.int .i64 0) from rfl)
  have d1 := frozen_of_heap hk 0
  have d2 := (Array.getElem?_eq_some_iff.1 hk).1
  clear h1 hk c0 c1 c2
  go_wp2_with fail
  go_ret
  exact ⟨rfl, (H1.out.swap.set 0 (.int .i64 r2)).swap⟩
end

set_option maxRecDepth 100000 in
set_option maxHeartbeats 8000000 in
theorem mix_calls {W w : World} {Rs : List Res} {b : Nat} {L : List T} {m : Int} (k i : Int) (h : Hd W w (Sto b L m :: Rs)) :
    Calls Try.prog 71 #[.pointer (some ⟨b, 0, none⟩), .int .i64 k, .int .i64 i] w fun e w' => e = .returned (.tuple #[.int .i64 (mix6 m L k i).1, .int .i64 (mix6 m L k i).2.1, .int .i64 (mix6 m L k i).2.2.1]) ∧ Hd W w' (Sto b (mix6 m L k i).2.2.2 m :: Rs) := by
  have H := hid h
  clear h
  obtain ⟨R, hR⟩ : ∃ R, mix6 m L k i = R := ⟨_, rfl⟩
  rw [hR]
  have HR := hid hR
  clear hR
  have hmf : ∀ (fn : Fn) (first cap : Array Value) (w : World), (Instr.makeFunc fn first cap).run Try.prog w = .ok (.func fn first cap) w := fun _ _ _ _ => rfl
  go_enter Try.func71, Try.ntmps71
  obtain ⟨h1, e1, L1, hq⟩ : ∃ h1 e1 L1, put m L (hasT k i) = (h1, e1, L1) := ⟨_, _, _, rfl⟩
  have Hq1 := hid hq
  clear hq
  go_wp2_with fail
  refine (hash_c k i Hq1 H.out.bx).mono ?_
  rintro e w1 ⟨rfl, h1'⟩
  have H1 := hid h1'
  clear h1'
  obtain ⟨S, hS⟩ : ∃ S, w.heap.size = S := ⟨_, rfl⟩
  rw [hS] at H1 ⊢
  clear hS H
  have hH : Hd W ((w1.alloc (.cells #[.int .i64 h1] 3)).alloc (.cells #[.int .i64 e1] 34)) _ := (H1.out.bx (o := .cells #[.int .i64 h1] 3 (0, 0))).bx (o := .cells #[.int .i64 e1] 34 (0, 0))
  have H := hid hH
  clear hH H1
  by_cases hk : e1 = 0
  case neg =>
    have dE10 : (e1 != 0) = true := by simp [hk]
    have E1 := hid hk
    clear hk
    go_wp2_with fail
    generalize hw2 : (w1.alloc (.cells #[.int .i64 h1] 3)).alloc (.cells #[.int .i64 e1] 34) = w2 at *
    obtain ⟨E, hE⟩ : ∃ E, w1.heap.size + 1 = E := ⟨_, rfl⟩
    rw [show (w1.alloc (.cells #[.int .i64 h1] 3)).heap.size = E from by simp [← hE]] at H
    rw [hE]
    clear hw2 hE
    have hk := H.out.swap.blk
    have ce : ∀ x : Later w2, x.w.cell? ⟨E, 0, none⟩ = some (.int .i64 e1) := fun x => x.cell (by rw [cell_of_heap hk]; rfl)
    clear hk
    refine wp_region_calm (by kernel_rfl) (by kernel_rfl) ?_
    repeat (go_big_quiet_step (fail))
    refine wpQuiet_nil ?_
    intro w9 hw9
    obtain ⟨⟨w9, hb9⟩, rfl⟩ := hw9
    have H3 := hid (H.out.still hb9)
    clear ce hb9
    go_wp2_with fail
    go_ret3
    have hR := HR.out
    simp [mix6, Hq1.out, E1.out] at hR
    subst hR
    exact ⟨rfl, H3.out.un2.un2.un2⟩
  have dE10 : (e1 != 0) = false := by simp [hk]
  have E1 := hid hk
  clear hk
  obtain ⟨h2, e2, L2, hq⟩ : ∃ h2 e2 L2, put m L1 (keyT h1 1) = (h2, e2, L2) := ⟨_, _, _, rfl⟩
  have Hq2 := hid hq
  clear hq
  obtain rfl : e1 = 0 := E1.out
  go_wp2_with fail
  generalize hw2 : (w1.alloc (.cells #[.int .i64 h1] 3)).alloc (.cells #[.int .i64 0] 34) = w2 at *
  obtain ⟨E, hE⟩ : ∃ E, w1.heap.size + 1 = E := ⟨_, rfl⟩
  rw [show (w1.alloc (.cells #[.int .i64 h1] 3)).heap.size = E from by simp [← hE]] at H
  rw [hE]
  obtain ⟨X, hX⟩ : ∃ X, w1.heap.size = X := ⟨_, rfl⟩
  rw [hX] at H ⊢
  clear hw2 hE hX
  refine (mixd_ok 1 Hq2 H.out).mono ?_
  rintro e w3 ⟨rfl, h3⟩
  have H2 := hid h3
  clear h3 H
  by_cases hk : e2 = 0
  case neg =>
    have dE20 : (e2 != 0) = true := by simp [hk]
    have E2 := hid hk
    clear hk
    go_wp2_with fail
    refine (mixd_bad 2 E2.out H2.out).mono ?_
    rintro e w4 ⟨rfl, h4⟩
    have H := hid h4
    have hk4 := h4.swap.blk
    have c4 := (cell_of_heap hk4 0).trans (show _ = some (.int .i64 e2) from rfl)
    clear h4 H2 hk4
    go_wp2_with fail
    clear c4
    have hk := H.out.swap.blk
    have ce : ∀ x : Later w4, x.w.cell? ⟨E, 0, none⟩ = some (.int .i64 e2) := fun x => x.cell (by rw [cell_of_heap hk]; rfl)
    clear hk
    refine wp_region_calm (by kernel_rfl) (by kernel_rfl) ?_
    repeat (go_big_quiet_step (fail))
    refine wpQuiet_nil ?_
    intro w9 hw9
    obtain ⟨⟨w9, hb9⟩, rfl⟩ := hw9
    have H3 := hid (H.out.still hb9)
    clear ce hb9
    go_wp2_with fail
    go_ret3
    have hR := HR.out
    simp [mix6, Hq1.out, Hq2.out, E2.out] at hR
    subst hR
    exact ⟨rfl, H3.out.un2.un2.un2⟩
  have dE20 : (e2 != 0) = false := by simp [hk]
  have E2 := hid hk
  clear hk
  obtain ⟨h3, e3, L3, hq⟩ : ∃ h3 e3 L3, put m L2 (keyT h1 2) = (h3, e3, L3) := ⟨_, _, _, rfl⟩
  have Hq3 := hid hq
  clear hq
  obtain rfl : e2 = 0 := E2.out
  go_wp2_with fail
  refine (mixd_ok 2 Hq3 H2.out).mono ?_
  rintro e w4 ⟨rfl, h4⟩
  have H := hid h4
  have hk4 := h4.swap.blk
  have c4 := (cell_of_heap hk4 0).trans (show _ = some (.int .i64 e3) from rfl)
  clear h4 H2 hk4
  by_cases hk : e3 = 0
  case neg =>
    have dE30 : (e3 != 0) = true := by simp [hk]
    have E3 := hid hk
    clear hk
    go_wp2_with fail
    clear c4
    have hk := H.out.swap.blk
    have ce : ∀ x : Later w4, x.w.cell? ⟨E, 0, none⟩ = some (.int .i64 e3) := fun x => x.cell (by rw [cell_of_heap hk]; rfl)
    clear hk
    refine wp_region_calm (by kernel_rfl) (by kernel_rfl) ?_
    repeat (go_big_quiet_step (fail))
    refine wpQuiet_nil ?_
    intro w9 hw9
    obtain ⟨⟨w9, hb9⟩, rfl⟩ := hw9
    have H3 := hid (H.out.still hb9)
    clear ce hb9
    go_wp2_with fail
    go_ret3
    have hR := HR.out
    simp [mix6, Hq1.out, Hq2.out, Hq3.out, E3.out] at hR
    subst hR
    exact ⟨rfl, H3.out.un2.un2.un2⟩
  have dE30 : (e3 != 0) = false := by simp [hk]
  have E3 := hid hk
  clear hk
  have H3 := H
  go_wp2_with fail
  go_ret3
  have hR := HR.out
  simp [mix6, Hq1.out, Hq2.out, Hq3.out, E3.out] at hR
  subst hR
  exact ⟨rfl, H3.out.un2.un2.un2⟩


end Go.Proofs.Ytbaliaodioflfaa
