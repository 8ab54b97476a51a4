/-
  SkipCopies returns true, and writes nothing that was there. For every input.
-/
import Derived.Test.YtbaliaodioflfaaSkipS
import Derived.Test.YtbaliaodioflfaaArgsC
namespace Go.Proofs.Ytbaliaodioflfaa
open Go.RowKit

set_option maxRecDepth 100000 in
set_option maxHeartbeats 32000000 in
theorem skipCopies_walk (a0 : Option Addr) (len0 cap0 : Nat) (z0 : List (List Int)) (n1 : Int) (b1 : 0 ≤ n1) (b1' : n1 ≤ 255) (W : World) (e0 : len0 = z0.length) (m0 : len0 ≤ maxLen) (i0 : RowsIn 2 .u8 W a0 z0) :
    Calls Try.prog 18 #[.slice a0 len0 cap0, .int .u8 n1] W fun e w' => e = .returned (.bool true) ∧ Below W.heap.size W w' := by
  have mixed : Try.prog.follows .mixedOrders = true := by kernel_rfl
  have E0 := hid e0
  have I0 := hid i0
  have hm0 : len0 ≤ 9223372036854775807 := by unfold maxLen at m0; exact m0
  clear e0 i0 m0
  have hn12 : 0 ≤ n1 % 12 := by omega
  have hn12' : n1 % 12 ≤ 11 := by omega
  have H0 := hid ((Hd.refl W).boxk (o := .cells #[.slice none 0 0] 85 (0, 0)) W.heap.size rfl |>.addCaNil)
  go_enter Try.func18, Try.ntmps18
  go_wp2_with fail
  go_loopw [6] (fun i wr => ∃ (j : Nat) (v : Value) (es : List En), j ≤ len0 ∧ j ≤ 20 ∧ i = .int .i64 j ∧ Hid (Rises es) ∧ es.length ≤ 4 ∧ Hid (Hd W wr [CaR v es, Blk W.heap.size (.cells #[v] 85 (0, 0))])) (fun i _ => len0 - (intOf i).toNat)
  case atStart => exact ⟨0, _, [], Nat.zero_le _, Nat.zero_le _, rfl, hid List.Pairwise.nil, Nat.zero_le _, H0⟩
  case round =>
    clear H0
    obtain ⟨j, v, es, hj, hj40, rfl, HR, hes, H⟩ := hrel
    obtain ⟨wo, hwo⟩ : ∃ wo : World, wo = wr := ⟨_, rfl⟩
    rw [← hwo] at H ⊢
    clear hwo wr
    obtain ⟨av, cv, rfl⟩ := H.out.ca_form
    have zj0 : (0 : Int) ≤ (j : Int) := by omega
    by_cases hgo : j < len0 ∧ j < 20
    · obtain ⟨h1, h2⟩ := hgo
      have d1 : decide ((j : Int) < (len0 : Int)) = true := by simp; omega
      have d1' : decide (j < len0) = true := by simp; omega
      have d2 : decide ((j : Int) < 20) = true := by simp; omega
      have d2' : decide (j < 20) = true := by simp; omega
      obtain ⟨z, hz⟩ : ∃ z, z0[j]? = some z := ⟨z0[j]'(by rw [← E0.out]; exact h1), List.getElem?_eq_getElem _⟩
      obtain ⟨hzl, hzb, g, og, rfl, hzc⟩ := I0.out j z hz
      obtain ⟨k0, k1, rfl⟩ : ∃ k0 k1, z = [k0, k1] := by
        match z, hzl with
        | [a, b], _ => exact ⟨a, b, rfl⟩
      have x0 := hzc 0 _ rfl
      have x1 := hzc 1 _ rfl
      rw [Nat.add_zero] at x0
      obtain ⟨p0, q0⟩ : 0 ≤ k0 ∧ k0 ≤ 255 := by simpa [IntKind.min, IntKind.max, IntKind.signed, IntKind.bits] using hzb k0 (by simp)
      obtain ⟨p1, q1⟩ : 0 ≤ k1 ∧ k1 ≤ 255 := by simpa [IntKind.min, IntKind.max, IntKind.signed, IntKind.bits] using hzb k1 (by simp)
      have zj1 : (j : Int) < (len0 : Int) := by omega
      clear hz hzc hzl hzb
      obtain ⟨⟨E2, ⟨ga, gk, gx, gy⟩, b⟩, hE2⟩ : ∃ r, kPut es ⟨k0 % 12, k1, 0, 0⟩ = r := ⟨_, rfl⟩
      obtain ⟨hr2, he4, -⟩ := rises_put HR.out hes hE2
      have HR2 := hid hr2
      have HE2 := hid hE2
      clear hE2 hr2
      go_wp2_with fail
      have hq0 : k0.tmod 12 = k0 % 12 := Int.tmod_eq_emod_of_nonneg p0
      have hq1 : IntKind.i64.wrap (k0 % 12) = k0 % 12 := IntWalk.i64_in _ (by omega)
      have hq2 : IntKind.i64.wrap k1 = k1 := IntWalk.i64_in _ (by omega)
      have cf52 : ∀ args w, (callFunc 52 args).run Try.prog w = .ok (.enter 52 args) w := fun args w => by kernel_rfl
      refine wp_region_hold [[], [], [], [1, 2], [3], [4], [5], [6], [], [], [8, 9], [10], [11], [12], [7, 13], [0, 14], [15], [16], [16], [16], [], [], [17, 20], [18, 21], [19]] [[], [], [], [], [], [], [], [], [], [], [], [], [], [], [], [15], [15], [15], [], [], [20], [21], [15, 20], [21], []] ([some 29, some 30, some 31, some 32, some 33, some 34, some 35, some 36, some 37, some 38, some 39, some 40, some 41, some 42, some 43, some 44, some 28, some 45, some 46, some 47, some 7, some 8, none, none, some 9] : List (Option Nat)) ([none, none, none, none, none, none, none, none, none, none, none, none, none, none, none, none, none, none, none, none, some 22, some 23, none, none, none] : List (Option Nat)) (
          (fun _ => .agg #[.slice av es.length cv]) ::
          (fun _ => .slice (some ⟨g, og, none⟩) len0 cap0) ::
          (fun _ => .int .i64 (j : Nat)) ::
          (fun _ => .pointer (some ⟨g, og + j * 2, none⟩)) ::
          (fun _ => .pointer (some ⟨g, og + j * 2, none⟩)) ::
          (fun _ => .int .u8 k0) ::
          (fun _ => .int .u8 (k0 % 12)) ::
          (fun _ => .int .i64 (k0 % 12)) ::
          (fun _ => .slice (some ⟨g, og, none⟩) len0 cap0) ::
          (fun _ => .int .i64 (j : Nat)) ::
          (fun _ => .pointer (some ⟨g, og + j * 2, none⟩)) ::
          (fun _ => .pointer (some ⟨g, og + j * 2 + 1, none⟩)) ::
          (fun _ => .int .u8 k1) ::
          (fun _ => .int .i64 k1) ::
          (fun _ => .agg #[.int .i64 (k0 % 12), .int .i64 k1, .int .u64 0, .int .u64 0]) ::
          (fun gs => .tuple #[.agg #[.slice (gs.getD 0 default).1 E2.length (gs.getD 0 default).2], .agg #[.int .i64 ga, .int .i64 gk, .int .u64 gx, .int .u64 gy], .bool b]) ::
          (fun gs => .tuple #[.agg #[.slice (gs.getD 0 default).1 E2.length (gs.getD 0 default).2], .agg #[.int .i64 ga, .int .i64 gk, .int .u64 gx, .int .u64 gy], .bool b]) ::
          (fun gs => .agg #[.slice (gs.getD 0 default).1 E2.length (gs.getD 0 default).2]) ::
          (fun _ => .agg #[.int .i64 ga, .int .i64 gk, .int .u64 gx, .int .u64 gy]) ::
          (fun _ => .bool b) ::
          (fun gs => .pointer (some ⟨(gs.getD 0 default).2, 0, none⟩)) ::
          (fun gs => .pointer (some ⟨(gs.getD 0 default).2, 0, none⟩)) ::
          (fun _ => undef) ::
          (fun _ => undef) ::
          (fun _ => .bool b) :: []) ((fun _ => []) :: (fun _ => []) :: (fun _ => []) :: (fun _ => []) :: (fun _ => []) :: (fun _ => []) :: (fun _ => []) :: (fun _ => []) :: (fun _ => []) :: (fun _ => []) :: (fun _ => []) :: (fun _ => []) :: (fun _ => []) :: (fun _ => []) :: (fun _ => []) :: (fun gs => [CaR (.slice (gs.getD 0 default).1 E2.length (gs.getD 0 default).2) E2]) :: (fun _ => []) :: (fun _ => []) :: (fun _ => []) :: (fun _ => []) :: (fun gs => [Blk (gs.getD 0 default).2 (.cells #[.slice none 0 0] 85 (0, 0))]) :: (fun gs => [Blk (gs.getD 0 default).2 (.cells #[.int .i64 0, .int .i64 0, .int .u64 0, .int .u64 0] 91 (0, 0))]) :: (fun _ => []) :: (fun _ => []) :: (fun _ => []) :: ([] : List (List Gh → List Res))) ((fun _ => []) :: (fun _ => []) :: (fun _ => []) :: (fun _ => []) :: (fun _ => []) :: (fun _ => []) :: (fun _ => []) :: (fun _ => []) :: (fun _ => []) :: (fun _ => []) :: (fun _ => []) :: (fun _ => []) :: (fun _ => []) :: (fun _ => []) :: (fun _ => []) :: (fun _ => []) :: (fun _ => []) :: (fun _ => []) :: (fun _ => []) :: (fun _ => []) :: (fun gs => [Blk (gs.getD 1 default).2 (.cells #[.slice (gs.getD 0 default).1 E2.length (gs.getD 0 default).2] 85 (0, 0))]) :: (fun gs => [Blk (gs.getD 0 default).2 (.cells #[.int .i64 ga, .int .i64 gk, .int .u64 gx, .int .u64 gy] 91 (0, 0))]) :: (fun _ => []) :: (fun _ => []) :: (fun _ => []) :: ([] : List (List Gh → List Res))) (by kernel_rfl) (by kernel_rfl) rfl (hold_lt (n := 97) (by decide)) H.out (hold_nil (fs := [22, 23]) (by decide) rfl ?_) (hold_fit (by decide)) ?_ ?_ (fun t => decide (7 ≤ t) && decide (t ≤ 9) || decide (28 ≤ t) && decide (t ≤ 47)) (by decide) ?_
      · intro s gs hs
        simp only [List.mem_cons, List.not_mem_nil, or_false] at hs
        rcases hs with rfl | rfl <;> rfl
      · repeat (refine StepAll.cons (by first | exact trivial | exact fun g => rfl) ?_)
        exact trivial
      ·
        refine StepAll.cons ?_ ?_
        · refine HoldStep.val (by decide) fun a wx γ hn hr Ss hH K hK => ?_
          have e5 : a.eval (.tmp 5) = .pointer (some ⟨W.heap.size, 0, none⟩) := (hr 5 (by decide)).trans rfl
          have hB := Hd.rear hH
          have kC := (cell_of_heap (Hd.nthk 1 hB rfl) 0).trans (show _ = some (.slice av es.length cv) from rfl)
          exact hold_run (v := .agg #[.slice av es.length cv]) (by clear hn hr hK; generalize a.eval = ρ at *; simp [execOp, e5, kC, go_sem]) rfl rfl hH hK
        refine StepAll.cons ?_ ?_
        · refine HoldStep.val (by decide) fun a wx γ hn hr Ss hH K hK => ?_
          have e0 : a.eval (.tmp 0) = .slice (some ⟨g, og, none⟩) len0 cap0 := (hr 0 (by decide)).trans rfl
          exact hold_run (v := .slice (some ⟨g, og, none⟩) len0 cap0) (by clear hn hr hK; generalize a.eval = ρ at *; simp [execOp, e0, go_sem]) rfl rfl hH hK
        refine StepAll.cons ?_ ?_
        · refine HoldStep.val (by decide) fun a wx γ hn hr Ss hH K hK => ?_
          have e6 : a.eval (.tmp 6) = .int .i64 (j : Nat) := (hr 6 (by decide)).trans rfl
          exact hold_run (v := .int .i64 (j : Nat)) (by clear hn hr hK; generalize a.eval = ρ at *; simp [execOp, e6, go_sem]) rfl rfl hH hK
        refine StepAll.cons ?_ ?_
        · refine HoldStep.val (by decide) fun a wx γ hn hr Ss hH K hK => ?_
          have e30 : a.eval (.tmp 30) = .slice (some ⟨g, og, none⟩) len0 cap0 := hn 1 (by decide) 30 rfl
          have e31 : a.eval (.tmp 31) = .int .i64 (j : Nat) := hn 2 (by decide) 31 rfl
          exact hold_run (v := .pointer (some ⟨g, og + j * 2, none⟩)) (by clear hn hr hK; generalize a.eval = ρ at *; simp [execOp, e30, e31, zj0, zj1, go_sem]) rfl rfl hH hK
        refine StepAll.cons ?_ ?_
        · refine HoldStep.val (by decide) fun a wx γ hn hr Ss hH K hK => ?_
          have ec := evc a
          have e32 : a.eval (.tmp 32) = .pointer (some ⟨g, og + j * 2, none⟩) := hn 3 (by decide) 32 rfl
          exact hold_run (v := .pointer (some ⟨g, og + j * 2, none⟩)) (by clear hn hr hK; generalize a.eval = ρ at *; simp [execOp, ec, e32, go_sem]) rfl rfl hH hK
        refine StepAll.cons ?_ ?_
        · refine HoldStep.val (by decide) fun a wx γ hn hr Ss hH K hK => ?_
          have e33 : a.eval (.tmp 33) = .pointer (some ⟨g, og + j * 2, none⟩) := hn 4 (by decide) 33 rfl
          have hB := Hd.rear hH
          have kx := bcl hB.below x0
          exact hold_run (v := .int .u8 k0) (by clear hn hr hK; generalize a.eval = ρ at *; simp [execOp, e33, kx, go_sem]) rfl rfl hH hK
        refine StepAll.cons ?_ ?_
        · refine HoldStep.val (by decide) fun a wx γ hn hr Ss hH K hK => ?_
          have ec := evc a
          have e34 : a.eval (.tmp 34) = .int .u8 k0 := hn 5 (by decide) 34 rfl
          exact hold_run (v := .int .u8 (k0 % 12)) (by clear hn hr hK; generalize a.eval = ρ at *; simp [execOp, ec, e34, hq0, go_sem]) rfl rfl hH hK
        refine StepAll.cons ?_ ?_
        · refine HoldStep.val (by decide) fun a wx γ hn hr Ss hH K hK => ?_
          have e35 : a.eval (.tmp 35) = .int .u8 (k0 % 12) := hn 6 (by decide) 35 rfl
          exact hold_run (v := .int .i64 (k0 % 12)) (by clear hn hr hK; generalize a.eval = ρ at *; simp [execOp, e35, hq1, go_sem]) rfl rfl hH hK
        refine StepAll.cons ?_ ?_
        · refine HoldStep.val (by decide) fun a wx γ hn hr Ss hH K hK => ?_
          have e0 : a.eval (.tmp 0) = .slice (some ⟨g, og, none⟩) len0 cap0 := (hr 0 (by decide)).trans rfl
          exact hold_run (v := .slice (some ⟨g, og, none⟩) len0 cap0) (by clear hn hr hK; generalize a.eval = ρ at *; simp [execOp, e0, go_sem]) rfl rfl hH hK
        refine StepAll.cons ?_ ?_
        · refine HoldStep.val (by decide) fun a wx γ hn hr Ss hH K hK => ?_
          have e6 : a.eval (.tmp 6) = .int .i64 (j : Nat) := (hr 6 (by decide)).trans rfl
          exact hold_run (v := .int .i64 (j : Nat)) (by clear hn hr hK; generalize a.eval = ρ at *; simp [execOp, e6, go_sem]) rfl rfl hH hK
        refine StepAll.cons ?_ ?_
        · refine HoldStep.val (by decide) fun a wx γ hn hr Ss hH K hK => ?_
          have e37 : a.eval (.tmp 37) = .slice (some ⟨g, og, none⟩) len0 cap0 := hn 8 (by decide) 37 rfl
          have e38 : a.eval (.tmp 38) = .int .i64 (j : Nat) := hn 9 (by decide) 38 rfl
          exact hold_run (v := .pointer (some ⟨g, og + j * 2, none⟩)) (by clear hn hr hK; generalize a.eval = ρ at *; simp [execOp, e37, e38, zj0, zj1, go_sem]) rfl rfl hH hK
        refine StepAll.cons ?_ ?_
        · refine HoldStep.val (by decide) fun a wx γ hn hr Ss hH K hK => ?_
          have ec := evc a
          have e39 : a.eval (.tmp 39) = .pointer (some ⟨g, og + j * 2, none⟩) := hn 10 (by decide) 39 rfl
          exact hold_run (v := .pointer (some ⟨g, og + j * 2 + 1, none⟩)) (by clear hn hr hK; generalize a.eval = ρ at *; simp [execOp, ec, e39, go_sem]) rfl rfl hH hK
        refine StepAll.cons ?_ ?_
        · refine HoldStep.val (by decide) fun a wx γ hn hr Ss hH K hK => ?_
          have e40 : a.eval (.tmp 40) = .pointer (some ⟨g, og + j * 2 + 1, none⟩) := hn 11 (by decide) 40 rfl
          have hB := Hd.rear hH
          have kx := bcl hB.below x1
          exact hold_run (v := .int .u8 k1) (by clear hn hr hK; generalize a.eval = ρ at *; simp [execOp, e40, kx, go_sem]) rfl rfl hH hK
        refine StepAll.cons ?_ ?_
        · refine HoldStep.val (by decide) fun a wx γ hn hr Ss hH K hK => ?_
          have e41 : a.eval (.tmp 41) = .int .u8 k1 := hn 12 (by decide) 41 rfl
          exact hold_run (v := .int .i64 k1) (by clear hn hr hK; generalize a.eval = ρ at *; simp [execOp, e41, hq2, go_sem]) rfl rfl hH hK
        refine StepAll.cons ?_ ?_
        · refine HoldStep.val (by decide) fun a wx γ hn hr Ss hH K hK => ?_
          have e36 : a.eval (.tmp 36) = .int .i64 (k0 % 12) := hn 7 (by decide) 36 rfl
          have e42 : a.eval (.tmp 42) = .int .i64 k1 := hn 13 (by decide) 42 rfl
          exact hold_run (v := .agg #[.int .i64 (k0 % 12), .int .i64 k1, .int .u64 0, .int .u64 0]) (by clear hn hr hK; generalize a.eval = ρ at *; simp [execOp, e36, e42, go_sem]) rfl rfl hH hK
        refine StepAll.cons ?_ ?_
        · refine HoldStep.val (by decide) fun a wx γ hn hr Ss hH K hK => ?_
          have e29 : a.eval (.tmp 29) = .agg #[.slice av es.length cv] := hn 0 (by decide) 29 rfl
          have e43 : a.eval (.tmp 43) = .agg #[.int .i64 (k0 % 12), .int .i64 k1, .int .u64 0, .int .u64 0] := hn 14 (by decide) 43 rfl
          have ef : a.eval (.func 52) = .func (.func 52) #[] #[] := rfl
          have hca := (Hd.rear hH).ca
          exact hold_call (by clear hn hr hK hH; generalize a.eval = ρ at *; simp [execOp, e29, e43, cf52, ef, go_sem]) ((put16_h (k0 % 12) k1 0 0 HE2.out HR.out (by omega) hca).mono fun e w2 h => by obtain ⟨x, h1, h2⟩ := h; exact ⟨x, h1, h2 _⟩) hH hK
        refine StepAll.cons ?_ ?_
        · refine HoldStep.val (by decide) fun a wx γ hn hr Ss hH K hK => ?_
          have e44 : a.eval (.tmp 44) = .tuple #[.agg #[.slice (γ 15).1 E2.length (γ 15).2], .agg #[.int .i64 ga, .int .i64 gk, .int .u64 gx, .int .u64 gy], .bool b] := hn 15 (by decide) 44 rfl
          exact hold_run (v := .tuple #[.agg #[.slice (γ 15).1 E2.length (γ 15).2], .agg #[.int .i64 ga, .int .i64 gk, .int .u64 gx, .int .u64 gy], .bool b]) (by clear hn hr hK; generalize a.eval = ρ at *; simp [execOp, e44, go_sem]) rfl rfl hH hK
        refine StepAll.cons ?_ ?_
        · refine HoldStep.val (by decide) fun a wx γ hn hr Ss hH K hK => ?_
          have e28 : a.eval (.tmp 28) = .tuple #[.agg #[.slice (γ 15).1 E2.length (γ 15).2], .agg #[.int .i64 ga, .int .i64 gk, .int .u64 gx, .int .u64 gy], .bool b] := hn 16 (by decide) 28 rfl
          exact hold_run (v := .agg #[.slice (γ 15).1 E2.length (γ 15).2]) (by clear hn hr hK; generalize a.eval = ρ at *; simp [execOp, e28, go_sem]) rfl rfl hH hK
        refine StepAll.cons ?_ ?_
        · refine HoldStep.val (by decide) fun a wx γ hn hr Ss hH K hK => ?_
          have e28 : a.eval (.tmp 28) = .tuple #[.agg #[.slice (γ 15).1 E2.length (γ 15).2], .agg #[.int .i64 ga, .int .i64 gk, .int .u64 gx, .int .u64 gy], .bool b] := hn 16 (by decide) 28 rfl
          exact hold_run (v := .agg #[.int .i64 ga, .int .i64 gk, .int .u64 gx, .int .u64 gy]) (by clear hn hr hK; generalize a.eval = ρ at *; simp [execOp, e28, go_sem]) rfl rfl hH hK
        refine StepAll.cons ?_ ?_
        · refine HoldStep.val (by decide) fun a wx γ hn hr Ss hH K hK => ?_
          have e28 : a.eval (.tmp 28) = .tuple #[.agg #[.slice (γ 15).1 E2.length (γ 15).2], .agg #[.int .i64 ga, .int .i64 gk, .int .u64 gx, .int .u64 gy], .bool b] := hn 16 (by decide) 28 rfl
          exact hold_run (v := .bool b) (by clear hn hr hK; generalize a.eval = ρ at *; simp [execOp, e28, go_sem]) rfl rfl hH hK
        refine StepAll.cons ?_ ?_
        · refine HoldStep.val (by decide) fun a wx γ hn hr Ss hH K hK => ?_
          exact hold_new (obj := .cells #[.slice none 0 0] 85 (0, 0)) (v := .pointer (some ⟨wx.heap.size, 0, none⟩)) (by clear hn hr hK; generalize a.eval = ρ at *; simp [execOp, go_sem]) rfl rfl hH hK
        refine StepAll.cons ?_ ?_
        · refine HoldStep.val (by decide) fun a wx γ hn hr Ss hH K hK => ?_
          exact hold_new (obj := .cells #[.int .i64 0, .int .i64 0, .int .u64 0, .int .u64 0] 91 (0, 0)) (v := .pointer (some ⟨wx.heap.size, 0, none⟩)) (by clear hn hr hK; generalize a.eval = ρ at *; simp [execOp, go_sem]) rfl rfl hH hK
        refine StepAll.cons ?_ ?_
        · refine HoldStep.fil 20 (by decide) fun a wx γ hn hr Ss hH K hK => ?_
          have e7 : a.eval (.tmp 7) = .pointer (some ⟨(γ 20).2, 0, none⟩) := hn 20 (by decide) 7 rfl
          have e45 : a.eval (.tmp 45) = .agg #[.slice (γ 15).1 E2.length (γ 15).2] := hn 17 (by decide) 45 rfl
          have hH2 : Hd W wx (Blk (γ 20).2 (.cells #[.slice none 0 0] 85 (0, 0)) :: Ss) := hH
          have hk := hH2.blk
          have c0 := (cell_of_heap hk 0).trans (show _ = some (.slice none 0 0) from rfl)
          have cf := frozen_of_heap hk
          clear hk hH
          exact hold_fil (w' := (wx.setCell ⟨(γ 20).2, 0, none⟩ (.slice (γ 15).1 E2.length (γ 15).2))) (by clear hn hr hK hH2; generalize a.eval = ρ at *; simp [execOp, e7, e45, c0, cf, go_sem]) (show Hd W _ (Blk (γ 20).2 _ :: Ss) from (hH2.set 0 (.slice (γ 15).1 E2.length (γ 15).2))) hK
        refine StepAll.cons ?_ ?_
        · refine HoldStep.fil 21 (by decide) fun a wx γ hn hr Ss hH K hK => ?_
          have e8 : a.eval (.tmp 8) = .pointer (some ⟨(γ 21).2, 0, none⟩) := hn 21 (by decide) 8 rfl
          have e46 : a.eval (.tmp 46) = .agg #[.int .i64 ga, .int .i64 gk, .int .u64 gx, .int .u64 gy] := hn 18 (by decide) 46 rfl
          have hH2 : Hd W wx (Blk (γ 21).2 (.cells #[.int .i64 0, .int .i64 0, .int .u64 0, .int .u64 0] 91 (0, 0)) :: Ss) := hH
          have hk := hH2.blk
          have c0 := (cell_of_heap hk 0).trans (show _ = some (.int .i64 0) from rfl)
          have c1 := (cell_of_heap hk 1).trans (show _ = some (.int .i64 0) from rfl)
          have c2 := (cell_of_heap hk 2).trans (show _ = some (.int .u64 0) from rfl)
          have c3 := (cell_of_heap hk 3).trans (show _ = some (.int .u64 0) from rfl)
          have cf := frozen_of_heap hk
          clear hk hH
          exact hold_fil (w' := ((((wx.setCell ⟨(γ 21).2, 0, none⟩ (.int .i64 ga)).setCell ⟨(γ 21).2, 1, none⟩ (.int .i64 gk)).setCell ⟨(γ 21).2, 2, none⟩ (.int .u64 gx)).setCell ⟨(γ 21).2, 3, none⟩ (.int .u64 gy))) (by clear hn hr hK hH2; generalize a.eval = ρ at *; simp [execOp, e8, e46, c0, c1, c2, c3, cf, go_sem]) (show Hd W _ (Blk (γ 21).2 _ :: Ss) from ((((hH2.set 0 (.int .i64 ga)).set 1 (.int .i64 gk)).set 2 (.int .u64 gx)).set 3 (.int .u64 gy))) hK
        refine StepAll.cons ?_ ?_
        · refine HoldStep.val (by decide) fun a wx γ hn hr Ss hH K hK => ?_
          have e47 : a.eval (.tmp 47) = .bool b := hn 19 (by decide) 47 rfl
          exact hold_run (v := .bool b) (by clear hn hr hK; generalize a.eval = ρ at *; simp [execOp, e47, go_sem]) rfl rfl hH hK
        exact trivial
      intro f w9 g9 hv h9
      have er7 : f 7 = .pointer (some ⟨(g9 20).2, 0, none⟩) := hv 20 7 rfl
      have er8 : f 8 = .pointer (some ⟨(g9 21).2, 0, none⟩) := hv 21 8 rfl
      have er9 : f 9 = .bool b := hv 24 9 rfl
      have hd : Hd W w9 ([CaR (.slice (g9 15).1 E2.length (g9 15).2) E2, Blk (g9 20).2 (.cells #[.slice (g9 15).1 E2.length (g9 15).2] 85 (0, 0)), Blk (g9 21).2 (.cells #[.int .i64 ga, .int .i64 gk, .int .u64 gx, .int .u64 gy] 91 (0, 0))] ++ [CaR (.slice av es.length cv) es, Blk W.heap.size (.cells #[.slice av es.length cv] 85 (0, 0))]) := h9
      obtain ⟨⟨adD, capD⟩, hG15⟩ : ∃ x, g9 15 = x := ⟨_, rfl⟩
      obtain ⟨⟨_, kd⟩, hG20⟩ : ∃ x, g9 20 = x := ⟨_, rfl⟩
      obtain ⟨⟨_, kg⟩, hG21⟩ : ∃ x, g9 21 = x := ⟨_, rfl⟩
      simp only [hG15, hG20, hG21, List.cons_append, List.nil_append] at hd er7 er8 er9
      clear hv h9 hG15 hG20 hG21 cf52
      clear g9
      simp only [patchG, Nat.reduceAdd, Nat.reduceLeDiff, decide_true, decide_false, Bool.and_true, Bool.and_false, Bool.or_true, Bool.or_false, cond_true, cond_false, er7, er8, er9]
      clear er7 er8 er9
      clear hq0 hq1 hq2 x0 x1 d1 d1' d2 d2' H
      have H := hid hd
      clear hd
      have hk := Hd.nthk 1 H.out rfl
      have k0 := (cell_of_heap hk 0).trans (show _ = some (.slice adD E2.length capD) from rfl)
      have ks := (Array.getElem?_eq_some_iff.1 hk).1
      clear hk
      have hk := Hd.nthk 4 H.out rfl
      have c0 := (cell_of_heap hk 0).trans (show _ = some (.slice av es.length cv) from rfl)
      have cs := (Array.getElem?_eq_some_iff.1 hk).1
      have cf := frozen_of_heap hk
      clear hk
      go_wp2_with fail
      go_roundw
      case rel => exact ⟨j + 1, .slice adD E2.length capD, E2, by omega, by omega, by go_num, HR2, he4, hid (Hd.dropEnd (Rs := [CaR (.slice adD E2.length capD) E2, Blk W.heap.size (.cells #[.slice adD E2.length capD] 85 (0, 0))]) (((H.out.front 4 rfl).set 0 (.slice adD E2.length capD)).front 1 rfl))⟩
      case measure => simp [intOf]; omega
    · by_cases h1 : j < len0
      · have d1 : decide ((j : Int) < (len0 : Int)) = true := by simp; omega
        have d1' : decide (j < len0) = true := by simp; omega
        have d2 : decide ((j : Int) < 20) = false := by simp; omega
        have d2' : decide (j < 20) = false := by simp; omega
        clear hgo h1
        have hk := Hd.nthk 1 H.out rfl
        have c0 := (cell_of_heap hk 0).trans (show _ = some (.slice av es.length cv) from rfl)
        have cs := (Array.getElem?_eq_some_iff.1 hk).1
        clear hk
        go_wp2_with fail
        refine (refs_own H.out.ca (by omega)).mono ?_
        rintro e w1 ⟨u, rfl, hu1, hu2, hu3⟩
        obtain ⟨au, cu, rfl, hu4, hu0⟩ := hu1.ex
        have hd := H.out.addCa hu3 hu4 hu0 hu2
        clear c0 cs H hu1 hu2 hu3 hu4 hu0
        have H := hid hd
        clear hd
        obtain ⟨⟨E2, ⟨ga, gk, gx, gy⟩, b⟩, hE2⟩ : ∃ r, kPut es ⟨n1 % 12, 999, 0, 0⟩ = r := ⟨_, rfl⟩
        obtain ⟨-, he2, -⟩ := rises_put HR.out hes hE2
        have HE2 := hid hE2
        clear hE2
        have hk := Hd.nthk 2 H.out rfl
        have c0 := (cell_of_heap hk 0).trans (show _ = some (.slice av es.length cv) from rfl)
        have cs := (Array.getElem?_eq_some_iff.1 hk).1
        clear hk
        go_wp2_with fail
        refine (put16_is (n1 % 12) 999 0 0 HE2.out HR.out (by omega) (H.out.front 1 rfl).ca H.out).mono ?_
        rintro e w2 ⟨adD, capD, rfl, hd⟩
        clear H c0 cs
        have H := hid hd
        clear hd
        have hk := Hd.nthk 3 H.out rfl
        have c0 := (cell_of_heap hk 0).trans (show _ = some (.slice av es.length cv) from rfl)
        have cs := (Array.getElem?_eq_some_iff.1 hk).1
        clear hk
        go_wp2_with fail
        have H9 := hid ((H.out.boxk (o := .cells #[.slice adD E2.length capD] 85 (0, 0)) w2.heap.size rfl).al (o := .cells #[.int .i64 ga, .int .i64 gk, .int .u64 gx, .int .u64 gy] 91 (0, 0)))
        clear H c0 cs
        have H := H9
        clear H9
        obtain ⟨E3, hE3⟩ : ∃ E3, kDrop es (n1 % 12) = E3 := ⟨_, rfl⟩
        have he3 := kDrop_length es (n1 % 12)
        rw [hE3] at he3
        have HE3 := hid hE3
        clear hE3
        refine (drop16_is (n1 % 12) HE3.out HR.out (by omega) (H.out.front 3 rfl).ca H.out).mono ?_
        rintro e w3 ⟨adF, capF, rfl, hd⟩
        clear H
        have H := hid hd
        clear hd
        go_wp2_with fail
        have H9 := hid (H.out.boxk (o := .cells #[.slice adF E3.length capF] 85 (0, 0)) w3.heap.size rfl)
        clear H
        have H := H9
        clear H9
        obtain ⟨nd, hnd⟩ : ∃ n, E2.length = n := ⟨_, rfl⟩
        obtain ⟨nf, hnf⟩ : ∃ n, E3.length = n := ⟨_, rfl⟩
        have H9 := hid ((((H.out.front 3 rfl)).caw.front 2 rfl).caw)
        clear H
        have H := H9
        clear H9
        rw [hnd] at H he2 ⊢
        rw [hnf] at H he3 ⊢
        clear hnd hnf HE2 HE3
        go_loopw [15] (fun k wr => ∃ m : Nat, m ≤ nd ∧ k = .int .i64 m ∧ Hid (Hd W wr [CaW (.slice adF nf capF) nf, CaW (.slice adD nd capD) nd, Blk (w3.heap.size) (.cells #[.slice adF nf capF] 85 (0, 0)), Blk (w2.heap.size) (.cells #[.slice adD nd capD] 85 (0, 0)), CaR (.slice au es.length cu) es, CaR (.slice av es.length cv) es, Blk (W.heap.size) (.cells #[.slice av es.length cv] 85 (0, 0))])) (fun k _ => nd - (intOf k).toNat)
        case atStart => exact ⟨0, Nat.zero_le _, rfl, H⟩
        case round =>
          clear H
          obtain ⟨m, hm, rfl, H⟩ := hrel
          obtain ⟨wi, hwi⟩ : ∃ wi : World, wi = wr := ⟨_, rfl⟩
          rw [← hwi] at H ⊢
          clear hwi wr
          have zm0 : 0 ≤ (m : Int) := by omega
          by_cases hm2 : m < nd
          · have dm : decide ((m : Int) < (nd : Int)) = true := by simp; omega
            have dm' : decide (m < nd) = true := by simp; omega
            have zm1 : (m : Int) < (nd : Int) := by omega
            obtain ⟨g5, o5, c5, y5, hv5, hc5, hf5, hl5, hs5⟩ := ((H.out.front 1 rfl)).caw_at hm2
            simp only [Value.slice.injEq] at hv5
            obtain ⟨hv5, -, -⟩ := hv5
            subst hv5
            have hk := Hd.nthk 3 H.out rfl
            have c0 := (cell_of_heap hk 0).trans (show _ = some (.slice (some ⟨g5, o5, none⟩) nd capD) from rfl)
            have cs := (Array.getElem?_eq_some_iff.1 hk).1
            clear hk
            have HS := hid hs5
            clear hs5
            go_wp2_with fail
            go_roundw
            case rel => exact ⟨m + 1, by omega, by go_num, hid ((HS.out _).back 1 rfl)⟩
            case measure => simp [intOf]; omega
          · have dm : decide ((m : Int) < (nd : Int)) = false := by simp; omega
            have dm' : decide (m < nd) = false := by simp; omega
            have hk := Hd.nthk 3 H.out rfl
            have c0 := (cell_of_heap hk 0).trans (show _ = some (.slice adD nd capD) from rfl)
            have cs := (Array.getElem?_eq_some_iff.1 hk).1
            clear hk
            go_wp2_with fail
            clear dm dm' c0 cs hm2 hm zm0
            go_loopw [16] (fun k wr => ∃ m : Nat, m ≤ nf ∧ k = .int .i64 m ∧ Hid (Hd W wr [CaW (.slice adF nf capF) nf, CaW (.slice adD nd capD) nd, Blk (w3.heap.size) (.cells #[.slice adF nf capF] 85 (0, 0)), Blk (w2.heap.size) (.cells #[.slice adD nd capD] 85 (0, 0)), CaR (.slice au es.length cu) es, CaR (.slice av es.length cv) es, Blk (W.heap.size) (.cells #[.slice av es.length cv] 85 (0, 0))])) (fun k _ => nf - (intOf k).toNat)
            case atStart => exact ⟨0, Nat.zero_le _, rfl, H⟩
            case round =>
              clear H
              obtain ⟨m, hm, rfl, H⟩ := hrel
              obtain ⟨wi, hwi⟩ : ∃ wi : World, wi = wr := ⟨_, rfl⟩
              rw [← hwi] at H ⊢
              clear hwi wr
              have zm0 : 0 ≤ (m : Int) := by omega
              by_cases hm2 : m < nf
              · have dm : decide ((m : Int) < (nf : Int)) = true := by simp; omega
                have dm' : decide (m < nf) = true := by simp; omega
                have zm1 : (m : Int) < (nf : Int) := by omega
                obtain ⟨g5, o5, c5, y5, hv5, hc5, hf5, hl5, hs5⟩ := ((H.out.front 0 rfl)).caw_at hm2
                simp only [Value.slice.injEq] at hv5
                obtain ⟨hv5, -, -⟩ := hv5
                subst hv5
                have hk := Hd.nthk 2 H.out rfl
                have c0 := (cell_of_heap hk 0).trans (show _ = some (.slice (some ⟨g5, o5, none⟩) nf capF) from rfl)
                have cs := (Array.getElem?_eq_some_iff.1 hk).1
                clear hk
                have HS := hid hs5
                clear hs5
                go_wp2_with fail
                go_roundw
                case rel => exact ⟨m + 1, by omega, by go_num, hid ((HS.out _).back 0 rfl)⟩
                case measure => simp [intOf]; omega
              · have dm : decide ((m : Int) < (nf : Int)) = false := by simp; omega
                have dm' : decide (m < nf) = false := by simp; omega
                have hk := Hd.nthk 2 H.out rfl
                have c0 := (cell_of_heap hk 0).trans (show _ = some (.slice adF nf capF) from rfl)
                have cs := (Array.getElem?_eq_some_iff.1 hk).1
                clear hk
                have hk := Hd.nthk 6 H.out rfl
                have k0 := (cell_of_heap hk 0).trans (show _ = some (.slice av es.length cv) from rfl)
                have ks := (Array.getElem?_eq_some_iff.1 hk).1
                clear hk
                go_wp2_with fail
                clear dm dm' c0 cs k0 ks hm2 hm zm0
                refine (refs_calls (H.out.front 5 rfl).ca (by omega)).mono ?_
                rintro e w7 ⟨v7, rfl, hv7, hb7⟩
                obtain ⟨a7, c7, rfl, i7, -⟩ := hv7.ex
                have H2 := hid (H.out.still hb7)
                clear H hb7
                have H := H2
                clear H2
                obtain ⟨a8, c8, h8, i8, -⟩ := (H.out.front 4 rfl).la.ex
                simp only [Value.slice.injEq] at h8
                obtain ⟨h8, -, -⟩ := h8
                subst h8
                have HS := hid (rsame_yes (ca := c7) (cb := cu) i7 i8 rfl rfl (by omega))
                clear i7 i8
                go_wp2_with fail
                refine HS.out.mono ?_
                rintro e w8 ⟨rfl, hb8⟩
                have H2 := hid (H.out.still hb8)
                clear H hb8 HS
                go_wp2_with fail
                refine (fixed16_calls w8).mono ?_
                rintro e w9 ⟨rfl, hb9⟩
                go_wp2_with fail
                go_ret
                exact ⟨rfl, H2.out.below.trans (hb9.mono H2.out.below.size)⟩
      · have d1 : decide ((j : Int) < (len0 : Int)) = false := by simp; omega
        have d1' : decide (j < len0) = false := by simp; omega
        clear hgo h1
        have hk := Hd.nthk 1 H.out rfl
        have c0 := (cell_of_heap hk 0).trans (show _ = some (.slice av es.length cv) from rfl)
        have cs := (Array.getElem?_eq_some_iff.1 hk).1
        clear hk
        go_wp2_with fail
        refine (refs_own H.out.ca (by omega)).mono ?_
        rintro e w1 ⟨u, rfl, hu1, hu2, hu3⟩
        obtain ⟨au, cu, rfl, hu4, hu0⟩ := hu1.ex
        have hd := H.out.addCa hu3 hu4 hu0 hu2
        clear c0 cs H hu1 hu2 hu3 hu4 hu0
        have H := hid hd
        clear hd
        obtain ⟨⟨E2, ⟨ga, gk, gx, gy⟩, b⟩, hE2⟩ : ∃ r, kPut es ⟨n1 % 12, 999, 0, 0⟩ = r := ⟨_, rfl⟩
        obtain ⟨-, he2, -⟩ := rises_put HR.out hes hE2
        have HE2 := hid hE2
        clear hE2
        have hk := Hd.nthk 2 H.out rfl
        have c0 := (cell_of_heap hk 0).trans (show _ = some (.slice av es.length cv) from rfl)
        have cs := (Array.getElem?_eq_some_iff.1 hk).1
        clear hk
        go_wp2_with fail
        refine (put16_is (n1 % 12) 999 0 0 HE2.out HR.out (by omega) (H.out.front 1 rfl).ca H.out).mono ?_
        rintro e w2 ⟨adD, capD, rfl, hd⟩
        clear H c0 cs
        have H := hid hd
        clear hd
        have hk := Hd.nthk 3 H.out rfl
        have c0 := (cell_of_heap hk 0).trans (show _ = some (.slice av es.length cv) from rfl)
        have cs := (Array.getElem?_eq_some_iff.1 hk).1
        clear hk
        go_wp2_with fail
        have H9 := hid ((H.out.boxk (o := .cells #[.slice adD E2.length capD] 85 (0, 0)) w2.heap.size rfl).al (o := .cells #[.int .i64 ga, .int .i64 gk, .int .u64 gx, .int .u64 gy] 91 (0, 0)))
        clear H c0 cs
        have H := H9
        clear H9
        obtain ⟨E3, hE3⟩ : ∃ E3, kDrop es (n1 % 12) = E3 := ⟨_, rfl⟩
        have he3 := kDrop_length es (n1 % 12)
        rw [hE3] at he3
        have HE3 := hid hE3
        clear hE3
        refine (drop16_is (n1 % 12) HE3.out HR.out (by omega) (H.out.front 3 rfl).ca H.out).mono ?_
        rintro e w3 ⟨adF, capF, rfl, hd⟩
        clear H
        have H := hid hd
        clear hd
        go_wp2_with fail
        have H9 := hid (H.out.boxk (o := .cells #[.slice adF E3.length capF] 85 (0, 0)) w3.heap.size rfl)
        clear H
        have H := H9
        clear H9
        obtain ⟨nd, hnd⟩ : ∃ n, E2.length = n := ⟨_, rfl⟩
        obtain ⟨nf, hnf⟩ : ∃ n, E3.length = n := ⟨_, rfl⟩
        have H9 := hid ((((H.out.front 3 rfl)).caw.front 2 rfl).caw)
        clear H
        have H := H9
        clear H9
        rw [hnd] at H he2 ⊢
        rw [hnf] at H he3 ⊢
        clear hnd hnf HE2 HE3
        go_loopw [15] (fun k wr => ∃ m : Nat, m ≤ nd ∧ k = .int .i64 m ∧ Hid (Hd W wr [CaW (.slice adF nf capF) nf, CaW (.slice adD nd capD) nd, Blk (w3.heap.size) (.cells #[.slice adF nf capF] 85 (0, 0)), Blk (w2.heap.size) (.cells #[.slice adD nd capD] 85 (0, 0)), CaR (.slice au es.length cu) es, CaR (.slice av es.length cv) es, Blk (W.heap.size) (.cells #[.slice av es.length cv] 85 (0, 0))])) (fun k _ => nd - (intOf k).toNat)
        case atStart => exact ⟨0, Nat.zero_le _, rfl, H⟩
        case round =>
          clear H
          obtain ⟨m, hm, rfl, H⟩ := hrel
          obtain ⟨wi, hwi⟩ : ∃ wi : World, wi = wr := ⟨_, rfl⟩
          rw [← hwi] at H ⊢
          clear hwi wr
          have zm0 : 0 ≤ (m : Int) := by omega
          by_cases hm2 : m < nd
          · have dm : decide ((m : Int) < (nd : Int)) = true := by simp; omega
            have dm' : decide (m < nd) = true := by simp; omega
            have zm1 : (m : Int) < (nd : Int) := by omega
            obtain ⟨g5, o5, c5, y5, hv5, hc5, hf5, hl5, hs5⟩ := ((H.out.front 1 rfl)).caw_at hm2
            simp only [Value.slice.injEq] at hv5
            obtain ⟨hv5, -, -⟩ := hv5
            subst hv5
            have hk := Hd.nthk 3 H.out rfl
            have c0 := (cell_of_heap hk 0).trans (show _ = some (.slice (some ⟨g5, o5, none⟩) nd capD) from rfl)
            have cs := (Array.getElem?_eq_some_iff.1 hk).1
            clear hk
            have HS := hid hs5
            clear hs5
            go_wp2_with fail
            go_roundw
            case rel => exact ⟨m + 1, by omega, by go_num, hid ((HS.out _).back 1 rfl)⟩
            case measure => simp [intOf]; omega
          · have dm : decide ((m : Int) < (nd : Int)) = false := by simp; omega
            have dm' : decide (m < nd) = false := by simp; omega
            have hk := Hd.nthk 3 H.out rfl
            have c0 := (cell_of_heap hk 0).trans (show _ = some (.slice adD nd capD) from rfl)
            have cs := (Array.getElem?_eq_some_iff.1 hk).1
            clear hk
            go_wp2_with fail
            clear dm dm' c0 cs hm2 hm zm0
            go_loopw [16] (fun k wr => ∃ m : Nat, m ≤ nf ∧ k = .int .i64 m ∧ Hid (Hd W wr [CaW (.slice adF nf capF) nf, CaW (.slice adD nd capD) nd, Blk (w3.heap.size) (.cells #[.slice adF nf capF] 85 (0, 0)), Blk (w2.heap.size) (.cells #[.slice adD nd capD] 85 (0, 0)), CaR (.slice au es.length cu) es, CaR (.slice av es.length cv) es, Blk (W.heap.size) (.cells #[.slice av es.length cv] 85 (0, 0))])) (fun k _ => nf - (intOf k).toNat)
            case atStart => exact ⟨0, Nat.zero_le _, rfl, H⟩
            case round =>
              clear H
              obtain ⟨m, hm, rfl, H⟩ := hrel
              obtain ⟨wi, hwi⟩ : ∃ wi : World, wi = wr := ⟨_, rfl⟩
              rw [← hwi] at H ⊢
              clear hwi wr
              have zm0 : 0 ≤ (m : Int) := by omega
              by_cases hm2 : m < nf
              · have dm : decide ((m : Int) < (nf : Int)) = true := by simp; omega
                have dm' : decide (m < nf) = true := by simp; omega
                have zm1 : (m : Int) < (nf : Int) := by omega
                obtain ⟨g5, o5, c5, y5, hv5, hc5, hf5, hl5, hs5⟩ := ((H.out.front 0 rfl)).caw_at hm2
                simp only [Value.slice.injEq] at hv5
                obtain ⟨hv5, -, -⟩ := hv5
                subst hv5
                have hk := Hd.nthk 2 H.out rfl
                have c0 := (cell_of_heap hk 0).trans (show _ = some (.slice (some ⟨g5, o5, none⟩) nf capF) from rfl)
                have cs := (Array.getElem?_eq_some_iff.1 hk).1
                clear hk
                have HS := hid hs5
                clear hs5
                go_wp2_with fail
                go_roundw
                case rel => exact ⟨m + 1, by omega, by go_num, hid ((HS.out _).back 0 rfl)⟩
                case measure => simp [intOf]; omega
              · have dm : decide ((m : Int) < (nf : Int)) = false := by simp; omega
                have dm' : decide (m < nf) = false := by simp; omega
                have hk := Hd.nthk 2 H.out rfl
                have c0 := (cell_of_heap hk 0).trans (show _ = some (.slice adF nf capF) from rfl)
                have cs := (Array.getElem?_eq_some_iff.1 hk).1
                clear hk
                have hk := Hd.nthk 6 H.out rfl
                have k0 := (cell_of_heap hk 0).trans (show _ = some (.slice av es.length cv) from rfl)
                have ks := (Array.getElem?_eq_some_iff.1 hk).1
                clear hk
                go_wp2_with fail
                clear dm dm' c0 cs k0 ks hm2 hm zm0
                refine (refs_calls (H.out.front 5 rfl).ca (by omega)).mono ?_
                rintro e w7 ⟨v7, rfl, hv7, hb7⟩
                obtain ⟨a7, c7, rfl, i7, -⟩ := hv7.ex
                have H2 := hid (H.out.still hb7)
                clear H hb7
                have H := H2
                clear H2
                obtain ⟨a8, c8, h8, i8, -⟩ := (H.out.front 4 rfl).la.ex
                simp only [Value.slice.injEq] at h8
                obtain ⟨h8, -, -⟩ := h8
                subst h8
                have HS := hid (rsame_yes (ca := c7) (cb := cu) i7 i8 rfl rfl (by omega))
                clear i7 i8
                go_wp2_with fail
                refine HS.out.mono ?_
                rintro e w8 ⟨rfl, hb8⟩
                have H2 := hid (H.out.still hb8)
                clear H hb8 HS
                go_wp2_with fail
                refine (fixed16_calls w8).mono ?_
                rintro e w9 ⟨rfl, hb9⟩
                go_wp2_with fail
                go_ret
                exact ⟨rfl, H2.out.below.trans (hb9.mono H2.out.below.size)⟩
end Go.Proofs.Ytbaliaodioflfaa
