/-
  To: the chain of a later epoch and the keys on the way. For every store and every chain.
-/
import Derived.Test.YtpcfmafokkffgaaChainD
namespace Go.Proofs.Ytpcfmafokkffgaa
open Go.RowKit Go.Shelf
attribute [local go_sem] Oper.semAt_some

theorem Hd.row_nil15 {W w : World} {Rs : List Res} {E : TypeId} {size : Nat} (h : Hd W w Rs) : Hd W w (RowR E size (.slice none 0 0) 0 [] :: Rs) :=
  h.add (Below.refl _ _) (fun _ => none) ⟨by simp, .inl ⟨rfl, rfl, rfl⟩⟩ (fun k o hk => by cases hk) (fun k hk => absurd rfl hk)

/-- An operation that asks for no round and puts off no call. -/
def NoRow (P : Program) (o : Oper) : Prop := (∀ c, o.op ≠ .defer c) ∧ ∀ (a : Act) (w : World) row args w', (execOp a.eval o).run P w ≠ .ok (.row row args) w'
theorem NoRow.val {P : Program} {o : Oper} (f : (Operand → Value) → Sem Value) (h : ∀ ρ, execOp ρ o = do pure (.value (← f ρ))) (hd : ∀ c, o.op ≠ .defer c) : NoRow P o := by
  refine ⟨hd, fun a w row args w' => ?_⟩
  rw [h, Sem.run_bind]
  cases (f a.eval).run P w <;> simp [Result.andThen, Sem.run_pure]
theorem NoRow.unit {P : Program} {o : Oper} (f : (Operand → Value) → Sem Unit) (h : ∀ ρ, execOp ρ o = do f ρ; pure .skip) (hd : ∀ c, o.op ≠ .defer c) : NoRow P o := by
  refine ⟨hd, fun a w row args w' => ?_⟩
  rw [h, Sem.run_bind]
  cases (f a.eval).run P w <;> simp [Result.andThen, Sem.run_pure]
theorem NoRow.app {P : Program} {o : Oper} (c : Call) (h : o.op = .call c) (hc : c.callee = .builtin .append) : NoRow P o := by
  refine ⟨fun c hc => (by rw [h] at hc; cases hc), fun a w row args w' => ?_⟩
  obtain ⟨callee, args, tys⟩ := c
  dsimp only at hc
  subst hc
  simp only [execOp, h, resolve, invoke, builtin, Sem.run_bind, Sem.run_pure, Result.andThen_ok]
  generalize (Builtin.append_ _ _ _).run P w = r
  cases r <;> simp [Result.andThen]
theorem noRows {P : Program} {l : List Oper} (h : StepAll (fun _ o => NoRow P o) 0 l) : ∀ (i : Nat) (o : Oper), l.toArray[i]? = some o → (∀ c, o.op ≠ .defer c) ∧ ∀ (a : Act) w row args w', (execOp a.eval o).run P w ≠ .ok (.row row args) w' := fun i o ho => by
  have := h.at (show l[i]? = some o by simpa using ho)
  exact this

section
variable {W w : World} {Rs : List Res} {b : Nat} {L : List T} {m : Int}

set_option maxRecDepth 100000 in
set_option maxHeartbeats 4000000 in
theorem to_calls (k e x : Int) (bx : -9223372036854775808 ≤ x) (bx' : x ≤ 9223372036854775807) (be : -9223372036854775808 ≤ e) (be' : e ≤ 9223372036854775807) (h : Hd W w (Sto b L m :: Rs)) {q : (Int × Int) × List Int × Int × List T} (hq : to15 m L k e x = q) :
    Calls Try.prog 20 #[.agg #[.int .i64 k, .int .i64 e], .pointer (some ⟨b, 0, none⟩), .int .i64 x] w fun e' w' => ∃ v, e' = .returned (.tuple #[.agg #[.int .i64 q.1.1, .int .i64 q.1.2], v, .int .i64 q.2.2.1]) ∧ Hd W w' (RowR 3 1 v q.2.1.length (nums .i64 q.2.1) :: Sto b q.2.2.2 m :: Rs) := by
  have mixed : Try.prog.follows .mixedOrders = true := by kernel_rfl
  have H := hid h
  clear h
  refine (callsIn_wide (n := 0)).1 ?_
  by_cases h1 : x < e
  · have d1 : decide (x < e) = true := by simpa using h1
    have HQ := hid (show to15 m L k e x = _ from if_pos h1)
    clear h1 bx bx' be be'
    refine callsIn_of_wp_marks Try.func20 rfl trivial ?_ rfl
    simp only [Try.ntmps20, List.size_toArray, List.length_cons, List.length_nil, Nat.reduceAdd, Nat.reduceSub, Array.replicate_succ, Array.replicate_zero, List.push_toArray, List.append_toArray, List.nil_append, List.cons_append]
    gi_wp2
    refine ⟨.tuple #[.agg #[.int .i64 0, .int .i64 0], .slice none 0 0, .int .i64 12], ?_, .slice none 0 0, ?_, ?_⟩
    · simp [results, Try.results20, go_sem]
    · rw [← hq, HQ.out]
    · rw [← hq, HQ.out]
      exact Hd.row_nil15 ((((H.out.boxk (o := .cells #[.int .i64 k, .int .i64 e] 32 (0, 0)) w.heap.size rfl).boxk (o := .cells #[.pointer (some ⟨b, 0, none⟩)] 25 (0, 0)) (w.heap.size + 1) (by simp)).boxk (o := .cells #[.int .i64 x] 3 (0, 0)) (w.heap.size + 1 + 1) (by simp)).boxk (o := .cells #[.int .i64 0, .int .i64 0] 32 (0, 0)) (w.heap.size + 1 + 1 + 1) (by simp)).drop.drop.drop.drop
  · have d1 : decide (x < e) = false := by simpa using h1
    have hu : IntKind.u64.wrap (IntKind.u64.wrap x - IntKind.u64.wrap e) = x - e := by
      simp only [IntKind.wrap, IntKind.bits, IntKind.signed]
      simp
      omega
    by_cases h2 : 4 < x - e
    · have d2 : decide (4 < x - e) = true := by simpa using h2
      have HQ := hid (show to15 m L k e x = _ from (if_neg h1).trans (if_pos h2))
      clear h1 h2 bx bx' be be'
      refine callsIn_of_wp_marks Try.func20 rfl trivial ?_ rfl
      simp only [Try.ntmps20, List.size_toArray, List.length_cons, List.length_nil, Nat.reduceAdd, Nat.reduceSub, Array.replicate_succ, Array.replicate_zero, List.push_toArray, List.append_toArray, List.nil_append, List.cons_append]
      gi_wp2
      refine ⟨.tuple #[.agg #[.int .i64 0, .int .i64 0], .slice none 0 0, .int .i64 13], ?_, .slice none 0 0, ?_, ?_⟩
      · simp [results, Try.results20, go_sem]
      · rw [← hq, HQ.out]
      · rw [← hq, HQ.out]
        exact Hd.row_nil15 ((((H.out.boxk (o := .cells #[.int .i64 k, .int .i64 e] 32 (0, 0)) w.heap.size rfl).boxk (o := .cells #[.pointer (some ⟨b, 0, none⟩)] 25 (0, 0)) (w.heap.size + 1) (by simp)).boxk (o := .cells #[.int .i64 x] 3 (0, 0)) (w.heap.size + 1 + 1) (by simp)).boxk (o := .cells #[.int .i64 0, .int .i64 0] 32 (0, 0)) (w.heap.size + 1 + 1 + 1) (by simp)).drop.drop.drop.drop
    · have d2 : decide (4 < x - e) = false := by simpa using h2
      obtain ⟨N, hN⟩ : ∃ N : Nat, x - e = N := ⟨(x - e).toNat, by omega⟩
      have hN4 : N ≤ 4 := by omega
      have HQ : Hid (to15 m L k e x = if (steps15 m N L k e).2.2.1 = 0 then ((steps15 m N L k e).2.1, (steps15 m N L k e).1, 0, (steps15 m N L k e).2.2.2) else ((0, 0), [], (steps15 m N L k e).2.2.1, (steps15 m N L k e).2.2.2)) := hid (by
        unfold to15
        rw [if_neg h1, if_neg h2, show (x - e).toNat = N by omega])
      have HN := hid hN
      have HN4 := hid hN4
      clear h1 h2 bx bx' be be' hN hN4
      refine callsIn_of_wp_marks Try.func20 rfl trivial ?_ rfl
      simp only [Try.ntmps20, List.size_toArray, List.length_cons, List.length_nil, Nat.reduceAdd, Nat.reduceSub, Array.replicate_succ, Array.replicate_zero, List.push_toArray, List.append_toArray, List.nil_append, List.cons_append]
      gi_wp2
      rename_i Q' K hK
      have HK := hid hK
      clear hK
      have hH := Hd.row_nil15 (E := 3) (size := 1) (((((((H.out.boxk (o := .cells #[.int .i64 k, .int .i64 e] 32 (0, 0)) w.heap.size rfl).boxk (o := .cells #[.pointer (some ⟨b, 0, none⟩)] 25 (0, 0)) (w.heap.size + 1) (by simp)).boxk (o := .cells #[.int .i64 x] 3 (0, 0)) (w.heap.size + 1 + 1) (by simp)).boxk (o := .cells #[.int .i64 0, .int .i64 0] 32 (0, 0)) (w.heap.size + 1 + 1 + 1) (by simp)).boxk (o := .cells #[.slice none 0 0] 33 (0, 0)) (w.heap.size + 1 + 1 + 1 + 1) (by simp)).boxk (o := .cells #[.int .i64 0] 34 (0, 0)) (w.heap.size + 1 + 1 + 1 + 1 + 1) (by simp)).boxk (o := .cells #[.int .i64 k, .int .i64 e] 32 (0, 0)) (w.heap.size + 1 + 1 + 1 + 1 + 1 + 1) (by simp))
      have hH2 := ((((((((hH.front 4 rfl).front 2 rfl).front 4 rfl).front 3 rfl).front 5 rfl).front 6 rfl).front 7 rfl).front 7 rfl).front 8 rfl
      clear hH
      refine to_loop (g := .tmp 32) rfl k e x N HN4.out HN.out (w.heap.size) (w.heap.size + 1) (w.heap.size + 1 + 1) (w.heap.size + 1 + 1 + 1 + 1 + 1) (w.heap.size + 1 + 1 + 1 + 1) (w.heap.size + 1 + 1 + 1 + 1 + 1 + 1) (.slice none 0 0) (fun x c a1 => a1.tmps.size = 46 ∧ a1.eval (.tmp 9) = .pointer (some ⟨w.heap.size + 1 + 1 + 1 + 1, 0, none⟩) ∧ a1.eval (.tmp 11) = .pointer (some ⟨w.heap.size + 1 + 1 + 1 + 1 + 1 + 1, 0, none⟩) ∧ a1.eval (.tmp 13) = .int .i64 x ∧ a1.eval (.tmp 14) = .pointer (some ⟨c, 0, none⟩)) rfl hH2 ?ass ?body ?after
      case ass =>
        intro mm l x dk de w1 Ys hY
        gi_wp2_with (rw [Oper.semAt_eq _ _ _ (fun c h => by cases h)]; go_simp; try go_bits)
        exact ⟨w1.heap.size, ⟨rfl, rfl, rfl, rfl, rfl⟩, hY.box _⟩
      case body =>
        generalize w.heap.size + 1 + 1 + 1 + 1 = kb
        rintro mm l c a1 xx dk de pre v lk le w1 Ys ⟨hsz, E9, E11, E13, E14⟩ hlen hH
        generalize kb + 1 + 1 = lb at *
        obtain ⟨va, vc, rfl⟩ := hH.drop.row_form
        obtain ⟨i0, hi0, hz0, hs0, hy0⟩ := info_int
        have ht : Try.prog.underlying 33 = some (.slice 3) := by kernel_rfl
        refine wpIn_block ?_
        refine hold_coreB (P := Try.prog) (W := W) (Rs := Blk c (.cells #[.int .i64 dk, .int .i64 de] 32 (0, 0)) :: Ys) [[], [], [1], [0, 2], [], [0, 3], [4]] [[], [], [2], [3], [], [3], []] ([some 35, some 36, some 37, some 38, some 39, none, none] : List (Option Nat)) ([none, none, none, none, none, none, none, some 3, some 5, some 6] : List (Option Nat))
          ((fun _ => .slice va pre.length vc) :: (fun _ => .int .i64 xx) :: (fun gs => .slice (some ⟨(gs.getD 0 default).2, 0, none⟩) 1 1) :: (fun gs => .slice (gs.getD 0 default).1 (pre.length + 1) (gs.getD 0 default).2) :: (fun _ => .agg #[.int .i64 dk, .int .i64 de]) :: (fun _ => undef) :: (fun _ => undef) :: [])
          ((fun _ => []) :: (fun _ => []) :: (fun gs => [Blk (gs.getD 0 default).2 (.cells #[.int .i64 xx] 3 (0, 0))]) :: (fun _ => []) :: (fun _ => []) :: (fun _ => []) :: (fun _ => []) :: (fun _ => [RowR 3 1 (.slice va pre.length vc) pre.length (nums .i64 pre)]) :: (fun _ => [Blk kb (.cells #[.slice va pre.length vc] 33 (0, 0))]) :: (fun _ => [Blk lb (.cells #[.int .i64 lk, .int .i64 le] 32 (0, 0))]) :: ([] : List (List Gh → List Res)))
          ((fun _ => []) :: (fun _ => []) :: (fun _ => []) :: (fun _ => []) :: (fun _ => []) :: (fun _ => []) :: (fun _ => []) :: (fun gs => [RowR 3 1 (.slice (gs.getD 0 default).1 (pre.length + 1) (gs.getD 0 default).2) (pre.length + 1) (nums .i64 (pre ++ [xx]))]) :: (fun gs => [Blk kb (.cells #[.slice (gs.getD 0 default).1 (pre.length + 1) (gs.getD 0 default).2] 33 (0, 0))]) :: (fun _ => [Blk lb (.cells #[.int .i64 dk, .int .i64 de] 32 (0, 0))]) :: ([] : List (List Gh → List Res)))
          (by kernel_rfl) rfl (hold_lt (n := 46) (by decide) hsz) (Hd.perm (swap_mid (A := [_]) (B := [_, _, _])) hH) rfl (by decide) (hold_nil (fs := [3, 5, 6]) trivial rfl ?nil) ?gd ?step (fun _ => true) (by decide) ?done (fun I h0 st dn => run_wpInB mixed (noRows ?rows) I h0 st dn)
        case nil =>
          intro s gs hs
          simp only [List.mem_cons, List.not_mem_nil, or_false] at hs
          rcases hs with rfl | rfl | rfl <;> rfl
        case gd =>
          repeat (refine StepAll.cons (by first | exact trivial | exact fun g => rfl) ?_)
          exact trivial
        case rows =>
          refine StepAll.cons (NoRow.val _ (fun ρ => rfl) (fun c h => by cases h)) ?_
          refine StepAll.cons (NoRow.val (fun ρ => pure (ρ (.tmp 13))) (fun ρ => rfl) (fun c h => by cases h)) ?_
          refine StepAll.cons (NoRow.val _ (fun ρ => rfl) (fun c h => by cases h)) ?_
          refine StepAll.cons (NoRow.app _ rfl rfl) ?_
          refine StepAll.cons (NoRow.val _ (fun ρ => rfl) (fun c h => by cases h)) ?_
          refine StepAll.cons (NoRow.unit _ (fun ρ => rfl) (fun c h => by cases h)) ?_
          refine StepAll.cons (NoRow.unit _ (fun ρ => rfl) (fun c h => by cases h)) ?_
          exact trivial
        case step =>
          refine StepAll.cons ?_ ?_
          · refine HoldStepB.val (by decide) fun a wx γ hn hr hres hpre Ss hH K hK => ?_
            have e9 := (hr 9 (by decide)).trans E9
            obtain ⟨Zs, hB⟩ := hpre 8 5 rfl (by decide) (by decide)
            have c0 := (cell_of_heap (show Hd W wx (Blk kb (.cells #[.slice va pre.length vc] 33 (0, 0)) :: Zs) from hB).blk 0).trans (show _ = some (.slice va pre.length vc) from rfl)
            exact hold_run (v := .slice va pre.length vc) (by clear hn hr hK; generalize a.eval = ρ at *; simp [execOp, e9, c0, go_sem]) rfl rfl hH hK
          refine StepAll.cons ?_ ?_
          · refine HoldStepB.val (by decide) fun a wx γ hn hr hres hpre Ss hH K hK => ?_
            have e13 := (hr 13 (by decide)).trans E13
            exact hold_run (v := .int .i64 xx) (by clear hn hr hK; generalize a.eval = ρ at *; simp [execOp, e13, go_sem]) rfl rfl hH hK
          refine StepAll.cons ?_ ?_
          · refine HoldStepB.val (by decide) fun a wx γ hn hr hres hpre Ss hH K hK => ?_
            have e36 : a.eval (.tmp 36) = .int .i64 xx := hn 1 (by decide) 36 rfl
            exact hold_new (obj := .cells #[.int .i64 xx] 3 (0, 0)) (v := .slice (some ⟨wx.heap.size, 0, none⟩) 1 1) (by clear hn hr hK; generalize a.eval = ρ at *; simp [execOp, e36, go_sem]) rfl rfl hH hK
          refine StepAll.cons ?_ ?_
          · refine HoldStepB.fil 7 (by decide) fun a wx γ hn hr hres hpre Ss hH K hK => ?_
            have e35 : a.eval (.tmp 35) = .slice va pre.length vc := hn 0 (by decide) 35 rfl
            have e37 : a.eval (.tmp 37) = .slice (some ⟨(γ 2).2, 0, none⟩) 1 1 := hn 2 (by decide) 37 rfl
            obtain ⟨Zs, hB⟩ := hres 2 (by decide) rfl
            exact hold_appB xx ht hi0 hz0 hs0 hy0 (by decide) (.tmp 35) (.tmp 37) rfl hH e35 e37 (show Hd W wx (Blk (γ 2).2 (.cells #[.int .i64 xx] 3 (0, 0)) :: Zs) from hB).blk (by omega) (fun y => rfl) (fun y => rfl) hK
          refine StepAll.cons ?_ ?_
          · refine HoldStepB.val (by decide) fun a wx γ hn hr hres hpre Ss hH K hK => ?_
            have e14 := (hr 14 (by decide)).trans E14
            have hk := hH.rear.blk
            have c0 := (cell_of_heap hk 0).trans (show _ = some (.int .i64 dk) from rfl)
            have c1 := (cell_of_heap hk 1).trans (show _ = some (.int .i64 de) from rfl)
            clear hk
            exact hold_run (v := .agg #[.int .i64 dk, .int .i64 de]) (by clear hn hr hK; generalize a.eval = ρ at *; simp [execOp, e14, c0, c1, go_sem]) rfl rfl hH hK
          refine StepAll.cons ?_ ?_
          · refine HoldStepB.fil 8 (by decide) fun a wx γ hn hr hres hpre Ss hH K hK => ?_
            have e9 := (hr 9 (by decide)).trans E9
            have e38 : a.eval (.tmp 38) = .slice (γ 3).1 (pre.length + 1) (γ 3).2 := hn 3 (by decide) 38 rfl
            have hH2 : Hd W wx (Blk kb (.cells #[.slice va pre.length vc] 33 (0, 0)) :: (Ss ++ Blk c (.cells #[.int .i64 dk, .int .i64 de] 32 (0, 0)) :: Ys)) := hH
            have hk := hH2.blk
            have c0 := (cell_of_heap hk 0).trans (show _ = some (.slice va pre.length vc) from rfl)
            have cf := frozen_of_heap hk
            clear hk hH
            exact hold_filB (w' := wx.setCell ⟨kb, 0, none⟩ (.slice (γ 3).1 (pre.length + 1) (γ 3).2)) (by clear hn hr hK hH2; generalize a.eval = ρ at *; simp [execOp, e9, e38, c0, cf, go_sem]) rfl rfl (hH2.set 0 (.slice (γ 3).1 (pre.length + 1) (γ 3).2)) hK
          refine StepAll.cons ?_ ?_
          · refine HoldStepB.fil 9 (by decide) fun a wx γ hn hr hres hpre Ss hH K hK => ?_
            have e11 := (hr 11 (by decide)).trans E11
            have e39 : a.eval (.tmp 39) = .agg #[.int .i64 dk, .int .i64 de] := hn 4 (by decide) 39 rfl
            have hH2 : Hd W wx (Blk lb (.cells #[.int .i64 lk, .int .i64 le] 32 (0, 0)) :: (Ss ++ Blk c (.cells #[.int .i64 dk, .int .i64 de] 32 (0, 0)) :: Ys)) := hH
            have hk := hH2.blk
            have c0 := (cell_of_heap hk 0).trans (show _ = some (.int .i64 lk) from rfl)
            have c1 := (cell_of_heap hk 1).trans (show _ = some (.int .i64 le) from rfl)
            have cf := frozen_of_heap hk
            clear hk hH
            exact hold_filB (w' := (wx.setCell ⟨lb, 0, none⟩ (.int .i64 dk)).setCell ⟨lb, 1, none⟩ (.int .i64 de)) (by clear hn hr hK hH2; generalize a.eval = ρ at *; simp [execOp, e11, e39, c0, c1, cf, go_sem]) rfl rfl ((hH2.set 0 (.int .i64 dk)).set 1 (.int .i64 de)) hK
          exact trivial
        case done =>
          intro f w9 g9 hv h9
          refine ⟨rfl, .slice (g9 3).1 (pre.length + 1) (g9 3).2, ?_⟩
          have hd : Hd W w9 (Blk (g9 2).2 (.cells #[.int .i64 xx] 3 (0, 0)) :: RowR 3 1 (.slice (g9 3).1 (pre.length + 1) (g9 3).2) (pre.length + 1) (nums .i64 (pre ++ [xx])) :: Blk kb (.cells #[.slice (g9 3).1 (pre.length + 1) (g9 3).2] 33 (0, 0)) :: Blk lb (.cells #[.int .i64 dk, .int .i64 de] 32 (0, 0)) :: Blk c (.cells #[.int .i64 dk, .int .i64 de] 32 (0, 0)) :: Ys) := h9
          rw [show (pre ++ [xx]).length = pre.length + 1 by simp]
          exact (hd.drop.front 3 rfl).drop
      case after =>
        intro D pre lk le v w2 hp hd
        obtain ⟨r, hr⟩ : ∃ r, steps15 m N L k e = r := ⟨_, rfl⟩
        have hq2 := HQ.out
        rw [hr] at hp hd hq2
        obtain ⟨rk, ⟨rl1, rl2⟩, re, rL⟩ := r
        dsimp only at hp hd hq2
        clear hr HQ H hH2
        obtain ⟨va, vc, rfl⟩ := (hd.front 5 rfl).row_form
        have HD := hid hd
        have HP := hid hp
        have HQ2 := hid hq2
        clear hd hp hq2
        have hk := Hd.nthk 1 HD.out rfl
        have k0 := (cell_of_heap hk 0).trans (show _ = some (.int .i64 re) from rfl)
        clear hk
        refine HK.out _ _ ?_
        by_cases h0 : re = 0
        · subst h0
          obtain ⟨rfl, hl⟩ := HP.out rfl
          obtain ⟨rfl, rfl⟩ := Prod.mk.inj hl
          clear hl HP
          gi_wp2
          refine wpIn_wide.2 ?_
          refine hold_coreB (P := Try.prog) (W := W) (Rs := Sto b rL m :: Blk (w.heap.size + 1 + 1 + 1 + 1 + 1) (.cells #[.int .i64 0] 34 (0, 0)) :: Blk w.heap.size (.cells #[.int .i64 k, .int .i64 e] 32 (0, 0)) :: Blk (w.heap.size + 1) (.cells #[.pointer (some ⟨b, 0, none⟩)] 25 (0, 0)) :: Blk (w.heap.size + 1 + 1) (.cells #[.int .i64 x] 3 (0, 0)) :: RowR 3 1 (.slice va pre.length vc) pre.length (nums .i64 pre) :: Blk (w.heap.size + 1 + 1 + 1 + 1) (.cells #[.slice va pre.length vc] 33 (0, 0)) :: Blk (w.heap.size + 1 + 1 + 1 + 1 + 1 + 1) (.cells #[.int .i64 lk, .int .i64 le] 32 (0, 0)) :: Blk D (.deferred (some [])) :: Rs) [[], [], [0], [1], []] [[], [], [], [], []] ([some 44, some 45, none, some 7, some 8] : List (Option Nat)) ([none, none, none, none, none, some 2] : List (Option Nat))
            ((fun _ => .agg #[.int .i64 lk, .int .i64 le]) :: (fun _ => .slice va pre.length vc) :: (fun _ => undef) :: (fun _ => .slice va pre.length vc) :: (fun _ => .int .i64 0) :: [])
            ((fun _ => []) :: (fun _ => []) :: (fun _ => []) :: (fun _ => []) :: (fun _ => []) :: (fun _ => [Blk (w.heap.size + 1 + 1 + 1) (.cells #[.int .i64 0, .int .i64 0] 32 (0, 0))]) :: ([] : List (List Gh → List Res)))
            ((fun _ => []) :: (fun _ => []) :: (fun _ => []) :: (fun _ => []) :: (fun _ => []) :: (fun _ => [Blk (w.heap.size + 1 + 1 + 1) (.cells #[.int .i64 lk, .int .i64 le] 32 (0, 0))]) :: ([] : List (List Gh → List Res)))
            (by kernel_rfl) rfl (hold_lt (n := 46) (by decide)) (HD.out.front 9 rfl) rfl (by decide) (hold_nil (fs := [2]) trivial rfl ?nil) ?gd ?step (fun t => (decide (7 ≤ t) && decide (t ≤ 8)) || (decide (44 ≤ t) && decide (t ≤ 45))) (by decide) ?done (fun I h0 st dn => run_wpB mixed I h0 st dn)
          case nil =>
            intro s gs hs
            simp only [List.mem_cons, List.not_mem_nil, or_false] at hs
            subst hs; rfl
          case gd =>
            repeat (refine StepAll.cons (by first | exact trivial | exact fun g => rfl) ?_)
            exact trivial
          case step =>
            refine StepAll.cons ?_ ?_
            · refine HoldStepB.val (by decide) fun a wx γ hn hr hres hpre Ss hH K hK => ?_
              have e11 : a.eval (.tmp 11) = .pointer (some ⟨(w.heap.size + 1 + 1 + 1 + 1 + 1 + 1), 0, none⟩) := (hr 11 (by decide)).trans rfl
              have hk := Hd.nthk 7 hH.rear rfl
              have c0 := (cell_of_heap hk 0).trans (show _ = some (.int .i64 lk) from rfl)
              have c1 := (cell_of_heap hk 1).trans (show _ = some (.int .i64 le) from rfl)
              clear hk
              exact hold_run (v := .agg #[.int .i64 lk, .int .i64 le]) (by clear hn hr hK; generalize a.eval = ρ at *; simp [execOp, e11, c0, c1, go_sem]) rfl rfl hH hK
            refine StepAll.cons ?_ ?_
            · refine HoldStepB.val (by decide) fun a wx γ hn hr hres hpre Ss hH K hK => ?_
              have e9 : a.eval (.tmp 9) = .pointer (some ⟨(w.heap.size + 1 + 1 + 1 + 1), 0, none⟩) := (hr 9 (by decide)).trans rfl
              have hk := Hd.nthk 6 hH.rear rfl
              have c0 := (cell_of_heap hk 0).trans (show _ = some (.slice va pre.length vc) from rfl)
              clear hk
              exact hold_run (v := .slice va pre.length vc) (by clear hn hr hK; generalize a.eval = ρ at *; simp [execOp, e9, c0, go_sem]) rfl rfl hH hK
            refine StepAll.cons ?_ ?_
            · refine HoldStepB.fil 5 (by decide) fun a wx γ hn hr hres hpre Ss hH K hK => ?_
              have e6 : a.eval (.tmp 6) = .pointer (some ⟨(w.heap.size + 1 + 1 + 1), 0, none⟩) := (hr 6 (by decide)).trans rfl
              have e44 : a.eval (.tmp 44) = .agg #[.int .i64 lk, .int .i64 le] := hn 0 (by decide) 44 rfl
              have hH2 : Hd W wx (Blk (w.heap.size + 1 + 1 + 1) (.cells #[.int .i64 0, .int .i64 0] 32 (0, 0)) :: (Ss ++ Sto b rL m :: Blk (w.heap.size + 1 + 1 + 1 + 1 + 1) (.cells #[.int .i64 0] 34 (0, 0)) :: Blk w.heap.size (.cells #[.int .i64 k, .int .i64 e] 32 (0, 0)) :: Blk (w.heap.size + 1) (.cells #[.pointer (some ⟨b, 0, none⟩)] 25 (0, 0)) :: Blk (w.heap.size + 1 + 1) (.cells #[.int .i64 x] 3 (0, 0)) :: RowR 3 1 (.slice va pre.length vc) pre.length (nums .i64 pre) :: Blk (w.heap.size + 1 + 1 + 1 + 1) (.cells #[.slice va pre.length vc] 33 (0, 0)) :: Blk (w.heap.size + 1 + 1 + 1 + 1 + 1 + 1) (.cells #[.int .i64 lk, .int .i64 le] 32 (0, 0)) :: Blk D (.deferred (some [])) :: Rs)) := hH
              have hk := hH2.blk
              have c0 := (cell_of_heap hk 0).trans (show _ = some (.int .i64 0) from rfl)
              have c1 := (cell_of_heap hk 1).trans (show _ = some (.int .i64 0) from rfl)
              have cf := frozen_of_heap hk
              clear hk hH
              exact hold_filB (w' := (wx.setCell ⟨(w.heap.size + 1 + 1 + 1), 0, none⟩ (.int .i64 lk)).setCell ⟨(w.heap.size + 1 + 1 + 1), 1, none⟩ (.int .i64 le)) (by clear hn hr hK hH2; generalize a.eval = ρ at *; simp [execOp, e6, e44, c0, c1, cf, go_sem]) rfl rfl ((hH2.set 0 (.int .i64 lk)).set 1 (.int .i64 le)) hK
            refine StepAll.cons ?_ ?_
            · refine HoldStepB.val (by decide) fun a wx γ hn hr hres hpre Ss hH K hK => ?_
              have e45 : a.eval (.tmp 45) = .slice va pre.length vc := hn 1 (by decide) 45 rfl
              exact hold_run (v := .slice va pre.length vc) (by clear hn hr hK; generalize a.eval = ρ at *; simp [execOp, e45, go_sem]) rfl rfl hH hK
            refine StepAll.cons ?_ ?_
            · refine HoldStepB.val (by decide) fun a wx γ hn hr hres hpre Ss hH K hK => ?_
              have ec := evc a
              exact hold_run (v := .int .i64 0) (by clear hn hr hK; generalize a.eval = ρ at *; simp [execOp, ec, go_sem]) rfl rfl hH hK
            exact trivial
          case done =>
            intro f w9 g9 hv h9
            have er7 : f 7 = .slice va pre.length vc := hv 3 7 rfl
            have er8 : f 8 = .int .i64 0 := hv 4 8 rfl
            have H9 : Hid (Hd W w9 (Blk (w.heap.size + 1 + 1 + 1) (.cells #[.int .i64 lk, .int .i64 le] 32 (0, 0)) :: Sto b rL m :: Blk (w.heap.size + 1 + 1 + 1 + 1 + 1) (.cells #[.int .i64 0] 34 (0, 0)) :: Blk w.heap.size (.cells #[.int .i64 k, .int .i64 e] 32 (0, 0)) :: Blk (w.heap.size + 1) (.cells #[.pointer (some ⟨b, 0, none⟩)] 25 (0, 0)) :: Blk (w.heap.size + 1 + 1) (.cells #[.int .i64 x] 3 (0, 0)) :: RowR 3 1 (.slice va pre.length vc) pre.length (nums .i64 pre) :: Blk (w.heap.size + 1 + 1 + 1 + 1) (.cells #[.slice va pre.length vc] 33 (0, 0)) :: Blk (w.heap.size + 1 + 1 + 1 + 1 + 1 + 1) (.cells #[.int .i64 lk, .int .i64 le] 32 (0, 0)) :: Blk D (.deferred (some [])) :: Rs)) := hid h9
            clear hv h9 HD
            simp only [patchG, Nat.reduceAdd, Nat.reduceLeDiff, decide_true, decide_false, Bool.and_true, Bool.and_false, Bool.or_true, Bool.or_false, cond_true, cond_false, er7, er8]
            clear er7 er8
            gi_wp2
            refine ⟨by simp, .inl ⟨_, _, rfl, run_takeDeferred (Hd.nthk 9 H9.out rfl), ?_⟩⟩
            have hd2 := ((H9.out.front 9 rfl).putObj (.deferred none)).drop
            have hk := hd2.blk
            have c0 := (cell_of_heap hk 0).trans (show _ = some (.int .i64 lk) from rfl)
            have c1 := (cell_of_heap hk 1).trans (show _ = some (.int .i64 le) from rfl)
            clear hk
            refine ⟨.tuple #[.agg #[.int .i64 lk, .int .i64 le], .slice va pre.length vc, .int .i64 0], ?_, .slice va pre.length vc, ?_, ?_⟩
            · simp [results, Try.results20, c0, c1, go_sem]
            · rw [← hq, HQ2.out, if_pos trivial]
            · rw [← hq, HQ2.out, if_pos trivial]
              have hd3 := hd2.drop.front 5 rfl
              exact (((((((((((hd3.front 2 rfl).drop).front 2 rfl).drop).front 2 rfl).drop).front 2 rfl).drop).front 2 rfl).drop).front 2 rfl).drop
        · have dx : (re != 0) = true := by rw [bne_iff_ne]; exact h0
          have dx' : decide (re = 0) = false := by simpa using h0
          gi_wp2
          refine wpIn_wide.2 ?_
          refine hold_coreB (P := Try.prog) (W := W) (Rs := Sto b rL m :: Blk (w.heap.size + 1 + 1 + 1 + 1 + 1) (.cells #[.int .i64 re] 34 (0, 0)) :: Blk w.heap.size (.cells #[.int .i64 k, .int .i64 e] 32 (0, 0)) :: Blk (w.heap.size + 1) (.cells #[.pointer (some ⟨b, 0, none⟩)] 25 (0, 0)) :: Blk (w.heap.size + 1 + 1) (.cells #[.int .i64 x] 3 (0, 0)) :: RowR 3 1 (.slice va pre.length vc) pre.length (nums .i64 pre) :: Blk (w.heap.size + 1 + 1 + 1 + 1) (.cells #[.slice va pre.length vc] 33 (0, 0)) :: Blk (w.heap.size + 1 + 1 + 1 + 1 + 1 + 1) (.cells #[.int .i64 lk, .int .i64 le] 32 (0, 0)) :: Blk D (.deferred (some [])) :: Rs) [[], [], [0], [], [1]] [[], [], [], [], []] ([some 42, some 43, none, some 7, some 8] : List (Option Nat)) ([none, none, none, none, none, some 2] : List (Option Nat))
            ((fun _ => .agg #[.int .i64 0, .int .i64 0]) :: (fun _ => .int .i64 re) :: (fun _ => undef) :: (fun _ => .slice none 0 0) :: (fun _ => .int .i64 re) :: [])
            ((fun _ => []) :: (fun _ => []) :: (fun _ => []) :: (fun _ => []) :: (fun _ => []) :: (fun _ => [Blk (w.heap.size + 1 + 1 + 1) (.cells #[.int .i64 0, .int .i64 0] 32 (0, 0))]) :: ([] : List (List Gh → List Res)))
            ((fun _ => []) :: (fun _ => []) :: (fun _ => []) :: (fun _ => []) :: (fun _ => []) :: (fun _ => [Blk (w.heap.size + 1 + 1 + 1) (.cells #[.int .i64 0, .int .i64 0] 32 (0, 0))]) :: ([] : List (List Gh → List Res)))
            (by kernel_rfl) rfl (hold_lt (n := 46) (by decide)) (HD.out.front 9 rfl) rfl (by decide) (hold_nil (fs := [2]) trivial rfl ?nil) ?gd ?step (fun t => (decide (7 ≤ t) && decide (t ≤ 8)) || (decide (42 ≤ t) && decide (t ≤ 43))) (by decide) ?done (fun I h0 st dn => run_wpB mixed I h0 st dn)
          case nil =>
            intro s gs hs
            simp only [List.mem_cons, List.not_mem_nil, or_false] at hs
            subst hs; rfl
          case gd =>
            repeat (refine StepAll.cons (by first | exact trivial | exact fun g => rfl) ?_)
            exact trivial
          case step =>
            refine StepAll.cons ?_ ?_
            · refine HoldStepB.val (by decide) fun a wx γ hn hr hres hpre Ss hH K hK => ?_
              exact hold_run (v := .agg #[.int .i64 0, .int .i64 0]) (by clear hn hr hK; generalize a.eval = ρ at *; simp [execOp, go_sem]) rfl rfl hH hK
            refine StepAll.cons ?_ ?_
            · refine HoldStepB.val (by decide) fun a wx γ hn hr hres hpre Ss hH K hK => ?_
              have e10 : a.eval (.tmp 10) = .pointer (some ⟨(w.heap.size + 1 + 1 + 1 + 1 + 1), 0, none⟩) := (hr 10 (by decide)).trans rfl
              have hk := Hd.nthk 1 hH.rear rfl
              have c0 := (cell_of_heap hk 0).trans (show _ = some (.int .i64 re) from rfl)
              clear hk
              exact hold_run (v := .int .i64 re) (by clear hn hr hK; generalize a.eval = ρ at *; simp [execOp, e10, c0, go_sem]) rfl rfl hH hK
            refine StepAll.cons ?_ ?_
            · refine HoldStepB.fil 5 (by decide) fun a wx γ hn hr hres hpre Ss hH K hK => ?_
              have e6 : a.eval (.tmp 6) = .pointer (some ⟨(w.heap.size + 1 + 1 + 1), 0, none⟩) := (hr 6 (by decide)).trans rfl
              have e42 : a.eval (.tmp 42) = .agg #[.int .i64 0, .int .i64 0] := hn 0 (by decide) 42 rfl
              have hH2 : Hd W wx (Blk (w.heap.size + 1 + 1 + 1) (.cells #[.int .i64 0, .int .i64 0] 32 (0, 0)) :: (Ss ++ Sto b rL m :: Blk (w.heap.size + 1 + 1 + 1 + 1 + 1) (.cells #[.int .i64 re] 34 (0, 0)) :: Blk w.heap.size (.cells #[.int .i64 k, .int .i64 e] 32 (0, 0)) :: Blk (w.heap.size + 1) (.cells #[.pointer (some ⟨b, 0, none⟩)] 25 (0, 0)) :: Blk (w.heap.size + 1 + 1) (.cells #[.int .i64 x] 3 (0, 0)) :: RowR 3 1 (.slice va pre.length vc) pre.length (nums .i64 pre) :: Blk (w.heap.size + 1 + 1 + 1 + 1) (.cells #[.slice va pre.length vc] 33 (0, 0)) :: Blk (w.heap.size + 1 + 1 + 1 + 1 + 1 + 1) (.cells #[.int .i64 lk, .int .i64 le] 32 (0, 0)) :: Blk D (.deferred (some [])) :: Rs)) := hH
              have hk := hH2.blk
              have c0 := (cell_of_heap hk 0).trans (show _ = some (.int .i64 0) from rfl)
              have c1 := (cell_of_heap hk 1).trans (show _ = some (.int .i64 0) from rfl)
              have cf := frozen_of_heap hk
              clear hk hH
              exact hold_filB (w' := (wx.setCell ⟨(w.heap.size + 1 + 1 + 1), 0, none⟩ (.int .i64 0)).setCell ⟨(w.heap.size + 1 + 1 + 1), 1, none⟩ (.int .i64 0)) (by clear hn hr hK hH2; generalize a.eval = ρ at *; simp [execOp, e6, e42, c0, c1, cf, go_sem]) rfl rfl ((hH2.set 0 (.int .i64 0)).set 1 (.int .i64 0)) hK
            refine StepAll.cons ?_ ?_
            · refine HoldStepB.val (by decide) fun a wx γ hn hr hres hpre Ss hH K hK => ?_
              have ec := evc a
              exact hold_run (v := .slice none 0 0) (by clear hn hr hK; generalize a.eval = ρ at *; simp [execOp, ec, go_sem]) rfl rfl hH hK
            refine StepAll.cons ?_ ?_
            · refine HoldStepB.val (by decide) fun a wx γ hn hr hres hpre Ss hH K hK => ?_
              have e43 : a.eval (.tmp 43) = .int .i64 re := hn 1 (by decide) 43 rfl
              exact hold_run (v := .int .i64 re) (by clear hn hr hK; generalize a.eval = ρ at *; simp [execOp, e43, go_sem]) rfl rfl hH hK
            exact trivial
          case done =>
            intro f w9 g9 hv h9
            have er7 : f 7 = .slice none 0 0 := hv 3 7 rfl
            have er8 : f 8 = .int .i64 re := hv 4 8 rfl
            have H9 : Hid (Hd W w9 (Blk (w.heap.size + 1 + 1 + 1) (.cells #[.int .i64 0, .int .i64 0] 32 (0, 0)) :: Sto b rL m :: Blk (w.heap.size + 1 + 1 + 1 + 1 + 1) (.cells #[.int .i64 re] 34 (0, 0)) :: Blk w.heap.size (.cells #[.int .i64 k, .int .i64 e] 32 (0, 0)) :: Blk (w.heap.size + 1) (.cells #[.pointer (some ⟨b, 0, none⟩)] 25 (0, 0)) :: Blk (w.heap.size + 1 + 1) (.cells #[.int .i64 x] 3 (0, 0)) :: RowR 3 1 (.slice va pre.length vc) pre.length (nums .i64 pre) :: Blk (w.heap.size + 1 + 1 + 1 + 1) (.cells #[.slice va pre.length vc] 33 (0, 0)) :: Blk (w.heap.size + 1 + 1 + 1 + 1 + 1 + 1) (.cells #[.int .i64 lk, .int .i64 le] 32 (0, 0)) :: Blk D (.deferred (some [])) :: Rs)) := hid h9
            clear hv h9 HD
            simp only [patchG, Nat.reduceAdd, Nat.reduceLeDiff, decide_true, decide_false, Bool.and_true, Bool.and_false, Bool.or_true, Bool.or_false, cond_true, cond_false, er7, er8]
            clear er7 er8
            gi_wp2
            refine ⟨by simp, .inl ⟨_, _, rfl, run_takeDeferred (Hd.nthk 9 H9.out rfl), ?_⟩⟩
            have hd2 := ((H9.out.front 9 rfl).putObj (.deferred none)).drop
            have hk := hd2.blk
            have c0 := (cell_of_heap hk 0).trans (show _ = some (.int .i64 0) from rfl)
            have c1 := (cell_of_heap hk 1).trans (show _ = some (.int .i64 0) from rfl)
            clear hk
            refine ⟨.tuple #[.agg #[.int .i64 0, .int .i64 0], .slice none 0 0, .int .i64 re], ?_, .slice none 0 0, ?_, ?_⟩
            · simp [results, Try.results20, c0, c1, go_sem]
            · rw [← hq, HQ2.out, if_neg h0]
            · rw [← hq, HQ2.out, if_neg h0]
              exact Hd.row_nil15 hd2.drop.un2.un2.un2.un2.un2.un2.un2
end
end Go.Proofs.Ytpcfmafokkffgaa
