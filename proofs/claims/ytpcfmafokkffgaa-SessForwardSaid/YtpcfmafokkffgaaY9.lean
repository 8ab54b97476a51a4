/-
  Walks and laws that the proof stands on, one behind another: HoldD SessI SessJ SessK SessN SessO SessQ ArgsB. For every input.
-/
import Derived.Test.YtpcfmafokkffgaaY4
import Derived.Test.YtpcfmafokkffgaaY3
import Derived.Test.YtpcfmafokkffgaaY8
import Derived.Test.YtpcfmafokkffgaaY5
import Derived.Laws.BytesString
import Derived.Laws.Cells
import Derived.Test.YtpcfmafokkffgaaY2
import Derived.OpenShut
namespace Go.Proofs.Ytpcfmafokkffgaa
open Go.RowKit

section
variable {Q : Exit → Act → World → Prop} {uses : List (List Nat)} {vals : List (List Gh → Value)} {R R2 : List (List Gh → List Res)} {W : World} {Ss Rs : List Res} {a : Act} {w : World} {g : Nat → Gh} {i b : Nat} {o : Oper} {K : Act → World → Prop}
theorem hold_litB {E : TypeId} {n : Nat} (zs : List Int) {cs : Array Value} (h : (execOp a.eval o).run Try.prog w = .ok (.value (.slice (some ⟨w.heap.size, 0, none⟩) n n)) (w.alloc (.cells cs E (0, 0)))) (hcs : cs = (nums .i64 zs).toArray) (hn : n = zs.length) (hm : n ≤ maxLen)
    (hv : Value.slice (some ⟨w.heap.size, 0, none⟩) n n = valOf uses vals (updG g i (none, w.heap.size)) i) (hR : (R.getD i fun _ => []) ((uses.getD i []).map (updG g i (none, w.heap.size))) = [RowR E 1 (.slice (some ⟨w.heap.size, 0, none⟩) n n) n (nums .i64 zs)]) (hH : Hd W w (Ss ++ Rs))
    (hK : ∀ x v w', (o.dst ≠ none → v = valOf uses vals (updG g i x) i) → Hd W w' ((R.getD i fun _ => []) ((uses.getD i []).map (updG g i x)) ++ (Ss ++ Rs)) → K (a.put o.dst v) w') : o.wp Try.prog a w K Q := by
  unfold Oper.wp; rw [h]
  exact hK (none, w.heap.size) _ _ (fun _ => hv) (by rw [hR]; exact hH.row_lit w.heap.size rfl zs hcs hn hm)

theorem hold_appsB {T E n bytes c : Nat} {ad : Option Addr} {zs ys : List Int} {inf : TypeInfo} {g0 cap0 : Nat}
    (ht : Try.prog.underlying T = some (.slice E)) (hi : Try.prog.info? E = some inf) (hz : inf.zero = some (.int .i64 0)) (hsize : inf.size = 1) (hby : inf.bytes = bytes) (hb8 : bytes ≤ 8)
    (s x : Operand) (ho : o.op = .call { callee := .builtin .append, args := #[s, x], argTypes := #[T, T] }) (h : Hd W w (RowR E 1 (.slice (some ⟨g0, 0, none⟩) n cap0) n (nums .i64 zs) :: Ss)) (hs : a.eval s = .slice (some ⟨g0, 0, none⟩) n cap0) (hnc : n ≤ cap0) (hx : a.eval x = .slice ad ys.length c) (hys : IntsAt w ad ys) (hn : n + ys.length ≤ 100000)
    (hv : ∀ y : Gh, valOf uses vals (updG g i y) i = .slice y.1 (n + ys.length) y.2) (hR : ∀ y : Gh, (R2.getD b fun _ => []) ((uses.getD i []).map (updG g i y)) = [RowR E 1 (.slice y.1 (n + ys.length) y.2) (n + ys.length) (nums .i64 (zs ++ ys))])
    (hK : ∀ x v w', (o.dst ≠ none → v = valOf uses vals (updG g i x) i) → Hd W w' ((R2.getD b fun _ => []) ((uses.getD i []).map (updG g i x)) ++ Ss) → K (a.put o.dst v) w') : o.wp Try.prog a w K Q := by
  rcases hys with rfl | ⟨g1, o1, rfl, hc⟩
  · have hrun : (Builtin.append_ #[T, T] o.type #[.slice (some ⟨g0, 0, none⟩) n cap0, .slice ad 0 c]).run Try.prog w = .ok (.slice (some ⟨g0, 0, none⟩) n cap0) w := by
      cases ad with
      | none => simp [Builtin.append_, run_underlying ht, sizeOf, typeInfo, hi, Builtin.lenOf, Builtin.firstCells, hnc, storeCells]
      | some a => simp [Builtin.append_, run_underlying ht, sizeOf, typeInfo, hi, Builtin.lenOf, Builtin.firstCells, hnc, storeCells, loadCells, go_sem]
    simp only [List.length_nil] at hx
    unfold Oper.wp
    simp [execOp, ho, resolve, invoke, builtin, hs, hx, hrun, Result.andThen]
    refine hK (some ⟨g0, 0, none⟩, cap0) _ w (fun _ => (hv (some ⟨g0, 0, none⟩, cap0)).symm) ?_
    rw [hR]
    simpa using h
  · by_cases h0 : ys = []
    · subst h0
      have hrun : (Builtin.append_ #[T, T] o.type #[.slice (some ⟨g0, 0, none⟩) n cap0, .slice (some ⟨g1, o1, none⟩) 0 c]).run Try.prog w = .ok (.slice (some ⟨g0, 0, none⟩) n cap0) w := by
        simp [Builtin.append_, run_underlying ht, sizeOf, typeInfo, hi, Builtin.lenOf, Builtin.firstCells, hnc, storeCells, loadCells, go_sem]
      simp only [List.length_nil] at hx
      unfold Oper.wp
      simp [execOp, ho, resolve, invoke, builtin, hs, hx, hrun, Result.andThen]
      refine hK (some ⟨g0, 0, none⟩, cap0) _ w (fun _ => (hv (some ⟨g0, 0, none⟩, cap0)).symm) ?_
      rw [hR]
      simpa using h
    · have hm : 0 < ys.length := List.length_pos_iff.2 h0
      refine wp_append_lies w s x T ho 0 E inf (.int .i64 0) 1 bytes ht hi hz hsize hby rfl (by decide) _ n _ hs h.owns ⟨g1, o1, none⟩ ys.length c (nums .i64 ys) hx (by simp [nums]) (fun j u hj => ?_) (by intro u hu; simp only [nums, List.mem_map] at hu; obtain ⟨z, _, rfl⟩ := hu; rfl) hm (by simp only [maxLen]; omega) ?_ (Nat.zero_le _) _ rfl ?_
      · simp only [nums, List.getElem?_map, Option.map_eq_some_iff] at hj
        obtain ⟨z, hz1, rfl⟩ := hj
        have hjl := (List.getElem?_eq_some_iff.1 hz1).1
        have := hc j hjl
        rw [List.getD_eq_getElem?_getD, hz1] at this
        rw [show ((⟨g1, o1, none⟩ : Addr).add j) = ⟨g1, o1 + j, none⟩ by simp [Addr.add_lit]]
        exact this
      · have : (n + ys.length) * bytes ≤ (n + ys.length) * 8 := Nat.mul_le_mul_left _ hb8
        omega
      · intro g2 cap w' ho' hg hgg _
        refine hK (some ⟨g2, 0, none⟩, cap) _ w' (fun _ => (hv (some ⟨g2, 0, none⟩, cap)).symm) ?_
        rw [hR]
        have := h.grown ho' hg hgg
        rw [show nums .i64 (zs ++ ys) = nums .i64 zs ++ nums .i64 ys by simp [nums]]
        exact this
end
end Go.Proofs.Ytpcfmafokkffgaa
namespace Go.Proofs.Ytpcfmafokkffgaa
open Go.RowKit

section
variable {W w : World} {Rs : List Res} {b p : Nat}
set_option maxHeartbeats 2000000 in
theorem keys_row {es : List En} {v : Value} {w : World} (h : CaAt w v es) (hm : es.length ≤ 900) :
    Calls Try.prog 76 #[.agg #[v]] w fun e w' => ∃ ad cap, e = .returned (.slice ad (kKeys es).length cap) ∧ Hd w w' [RowR 3 1 (.slice ad (kKeys es).length cap) (kKeys es).length (nums .i64 (kKeys es))] := by
  obtain ⟨ad, cap, rfl, hat, _⟩ := h.ex
  have HE := hid hat
  clear hat h
  go_enter Try.func76, Try.ntmps76
  go_wp2_with fail
  have H0 := hid ((Hd.refl w).box (.cells #[.slice ad es.length cap] 144 (0, 0)))
  refine (mapped_calls (HE.out.later H0.out.below) rfl hm).mono ?_
  rintro e w1 ⟨u, rfl, hd⟩
  have H1 := hid (H0.out.join hd)
  obtain ⟨ua, uc, rfl⟩ := hd.row_form
  have hl : es.length = (kKeys es).length := by simp [kKeys]
  have HL := hid hl
  clear hd hl
  go_wp2_with fail
  go_ret
  refine ⟨ua, uc, by rw [← HL.out]; rfl, ?_⟩
  rw [← HL.out]
  exact H1.out.un2

set_option maxRecDepth 100000 in
set_option maxHeartbeats 8000000 in
theorem skeys19_calls {x : Se} {ad : Option Addr} {cap : Nat} (h4 : x.rc.es.length ≤ 4) (hd : Hd W w (Blk p (seO b x (.slice ad x.rc.es.length cap)) :: CaR (.slice ad x.rc.es.length cap) x.rc.es :: Rs)) :
    Calls Try.prog 44 #[.pointer (some ⟨p, 0, none⟩)] w fun e' w' => ∃ a2 c2, e' = .returned (.slice a2 (2 + (kKeys x.rc.es).length) c2) ∧ Hd W w' (RowR 3 1 (.slice a2 (2 + (kKeys x.rc.es).length) c2) (2 + (kKeys x.rc.es).length) (nums .i64 ([x.ok, x.rc.ik] ++ kKeys x.rc.es)) :: Blk p (seO b x (.slice ad x.rc.es.length cap)) :: CaR (.slice ad x.rc.es.length cap) x.rc.es :: Rs) := by
  have mixed : Try.prog.follows .mixedOrders = true := by kernel_rfl
  obtain ⟨ok, oe, sent, ⟨ik, ie, nx, bt, es⟩, xh, xs, xr, xv⟩ := x
  dsimp only at h4
  have H : Hid (Hd W w (Blk p (.cells #[.int .i64 ok, .int .i64 oe, .int .i64 sent, .int .i64 ik, .int .i64 ie, .int .u64 nx, .int .u64 bt, .slice ad es.length cap, .pointer (some ⟨b, 0, none⟩), .int .i64 xh, .int .i64 xs, .int .i64 xr, .int .i64 xv] 148 (0, 0)) :: CaR (.slice ad es.length cap) es :: Rs)) := hid hd
  have hk4 : (kKeys es).length ≤ 4 := by simpa [kKeys] using h4
  obtain ⟨i0, hi0, hz0, hs0, hy0⟩ := info_int
  clear hd
  go_enter Try.func44, Try.ntmps44
  go_wp2_with fail
  have cf76 : ∀ args w, (callFunc 76 args).run Try.prog w = .ok (.enter 76 args) w := fun args w => by kernel_rfl
  refine hold_coreB (P := Try.prog) (W := W) (Rs := (Blk p (.cells #[.int .i64 ok, .int .i64 oe, .int .i64 sent, .int .i64 ik, .int .i64 ie, .int .u64 nx, .int .u64 bt, .slice ad es.length cap, .pointer (some ⟨b, 0, none⟩), .int .i64 xh, .int .i64 xs, .int .i64 xr, .int .i64 xv] 148 (0, 0)) :: CaR (.slice ad es.length cap) es :: Rs)) [[], [0], [1], [2], [3], [4], [], [6], [7], [8], [9], [10], [5, 11], [], [13], [14], [15], [16], [17], [12, 18], [19]] [[], [], [], [], [], [], [], [], [], [], [], [], [12], [], [], [], [], [], [18], [19], [19]] ([some 3, some 4, some 5, some 6, some 7, some 8, some 9, some 10, some 11, some 12, some 13, some 14, some 15, some 16, some 17, some 18, some 19, some 20, some 21, some 22, some 2] : List (Option Nat)) ([none, none, none, none, none, none, none, none, none, none, none, none, some 19, none, none, none, none, none, none, none, none] : List (Option Nat)) ((fun _ => .pointer (some ⟨p, 0, none⟩)) :: (fun _ => .pointer (some ⟨p, 0, none⟩)) :: (fun _ => .pointer (some ⟨p, 0, none⟩)) :: (fun _ => .pointer (some ⟨p, 0, none⟩)) :: (fun _ => .pointer (some ⟨p, 0, none⟩)) :: (fun _ => .int .i64 ok) :: (fun _ => .pointer (some ⟨p, 0, none⟩)) :: (fun _ => .pointer (some ⟨p, 0, none⟩)) :: (fun _ => .pointer (some ⟨p, 3, none⟩)) :: (fun _ => .pointer (some ⟨p, 3, none⟩)) :: (fun _ => .pointer (some ⟨p, 3, none⟩)) :: (fun _ => .int .i64 ik) :: (fun gs => .slice (some ⟨(gs.getD 0 default).2, 0, none⟩) 2 2) :: (fun _ => .pointer (some ⟨p, 0, none⟩)) :: (fun _ => .pointer (some ⟨p, 0, none⟩)) :: (fun _ => .pointer (some ⟨p, 3, none⟩)) :: (fun _ => .pointer (some ⟨p, 7, none⟩)) :: (fun _ => .agg #[.slice ad es.length cap]) :: (fun gs => .slice (gs.getD 0 default).1 (kKeys es).length (gs.getD 0 default).2) :: (fun gs => .slice (gs.getD 0 default).1 (2 + (kKeys es).length) (gs.getD 0 default).2) :: (fun gs => .slice (gs.getD 0 default).1 (2 + (kKeys es).length) (gs.getD 0 default).2) :: []) ((fun _ => []) :: (fun _ => []) :: (fun _ => []) :: (fun _ => []) :: (fun _ => []) :: (fun _ => []) :: (fun _ => []) :: (fun _ => []) :: (fun _ => []) :: (fun _ => []) :: (fun _ => []) :: (fun _ => []) :: (fun gs => [RowR 3 1 (.slice (some ⟨(gs.getD 0 default).2, 0, none⟩) 2 2) 2 (nums .i64 [ok, ik])]) :: (fun _ => []) :: (fun _ => []) :: (fun _ => []) :: (fun _ => []) :: (fun _ => []) :: (fun gs => [RowR 3 1 (.slice (gs.getD 0 default).1 (kKeys es).length (gs.getD 0 default).2) (kKeys es).length (nums .i64 (kKeys es))]) :: (fun _ => []) :: (fun _ => []) :: ([] : List (List Gh → List Res))) ((fun _ => []) :: (fun _ => []) :: (fun _ => []) :: (fun _ => []) :: (fun _ => []) :: (fun _ => []) :: (fun _ => []) :: (fun _ => []) :: (fun _ => []) :: (fun _ => []) :: (fun _ => []) :: (fun _ => []) :: (fun gs => [RowR 3 1 (.slice (gs.getD 0 default).1 (2 + (kKeys es).length) (gs.getD 0 default).2) (2 + (kKeys es).length) (nums .i64 ([ok, ik] ++ kKeys es))]) :: (fun _ => []) :: (fun _ => []) :: (fun _ => []) :: (fun _ => []) :: (fun _ => []) :: (fun _ => []) :: (fun _ => []) :: (fun _ => []) :: ([] : List (List Gh → List Res))) (by kernel_rfl) rfl (hold_lt (n := 23) (by decide)) H.out rfl (by decide) (hold_nil (fs := [19]) trivial rfl ?nil1) ?gd1 ?step1 (fun t => (decide (2 ≤ t) && decide (t ≤ 22))) (by decide) ?done1 (fun I h0 st dn => run_wpB mixed I h0 st dn)
  case nil1 =>
    intro s gs hs
    simp only [List.mem_cons, List.not_mem_nil, or_false] at hs
    subst hs; rfl
  case gd1 =>
    repeat (refine StepAll.cons (by first | exact trivial | exact fun g => rfl) ?_)
    exact trivial
  case step1 =>
    refine StepAll.cons ?_ ?_
    · refine HoldStepB.val (by decide) fun a wx γ hn hr hres hpre Ss hH K hK => ?_
      have e0 : a.eval (.tmp 0) = .pointer (some ⟨p, 0, none⟩) := (hr 0 (by decide)).trans rfl
      exact hold_run (v := .pointer (some ⟨p, 0, none⟩)) (by clear hn hr hK; generalize a.eval = ρ at *; simp [execOp, e0, go_sem]) rfl rfl hH hK
    refine StepAll.cons ?_ ?_
    · refine HoldStepB.val (by decide) fun a wx γ hn hr hres hpre Ss hH K hK => ?_
      have e3 : a.eval (.tmp 3) = .pointer (some ⟨p, 0, none⟩) := hn 0 (by decide) 3 rfl
      exact hold_run (v := .pointer (some ⟨p, 0, none⟩)) (by clear hn hr hK; generalize a.eval = ρ at *; simp [execOp, e3, go_sem]) rfl rfl hH hK
    refine StepAll.cons ?_ ?_
    · refine HoldStepB.val (by decide) fun a wx γ hn hr hres hpre Ss hH K hK => ?_
      have e4 : a.eval (.tmp 4) = .pointer (some ⟨p, 0, none⟩) := hn 1 (by decide) 4 rfl
      exact hold_run (v := .pointer (some ⟨p, 0, none⟩)) (by clear hn hr hK; generalize a.eval = ρ at *; simp [execOp, e4, go_sem]) rfl rfl hH hK
    refine StepAll.cons ?_ ?_
    · refine HoldStepB.val (by decide) fun a wx γ hn hr hres hpre Ss hH K hK => ?_
      have e5 : a.eval (.tmp 5) = .pointer (some ⟨p, 0, none⟩) := hn 2 (by decide) 5 rfl
      exact hold_run (v := .pointer (some ⟨p, 0, none⟩)) (by clear hn hr hK; generalize a.eval = ρ at *; simp [execOp, e5, go_sem]) rfl rfl hH hK
    refine StepAll.cons ?_ ?_
    · refine HoldStepB.val (by decide) fun a wx γ hn hr hres hpre Ss hH K hK => ?_
      have e6 : a.eval (.tmp 6) = .pointer (some ⟨p, 0, none⟩) := hn 3 (by decide) 6 rfl
      exact hold_run (v := .pointer (some ⟨p, 0, none⟩)) (by clear hn hr hK; generalize a.eval = ρ at *; simp [execOp, e6, go_sem]) rfl rfl hH hK
    refine StepAll.cons ?_ ?_
    · refine HoldStepB.val (by decide) fun a wx γ hn hr hres hpre Ss hH K hK => ?_
      have e7 : a.eval (.tmp 7) = .pointer (some ⟨p, 0, none⟩) := hn 4 (by decide) 7 rfl
      have hk := Hd.nthk 0 hH.rear rfl
      have c0 := (cell_of_heap hk 0).trans (show _ = some (.int .i64 ok) from rfl)
      clear hk
      exact hold_run (v := .int .i64 ok) (by clear hn hr hK; generalize a.eval = ρ at *; simp [execOp, e7, c0, go_sem]) rfl rfl hH hK
    refine StepAll.cons ?_ ?_
    · refine HoldStepB.val (by decide) fun a wx γ hn hr hres hpre Ss hH K hK => ?_
      have e0 : a.eval (.tmp 0) = .pointer (some ⟨p, 0, none⟩) := (hr 0 (by decide)).trans rfl
      exact hold_run (v := .pointer (some ⟨p, 0, none⟩)) (by clear hn hr hK; generalize a.eval = ρ at *; simp [execOp, e0, go_sem]) rfl rfl hH hK
    refine StepAll.cons ?_ ?_
    · refine HoldStepB.val (by decide) fun a wx γ hn hr hres hpre Ss hH K hK => ?_
      have e9 : a.eval (.tmp 9) = .pointer (some ⟨p, 0, none⟩) := hn 6 (by decide) 9 rfl
      exact hold_run (v := .pointer (some ⟨p, 0, none⟩)) (by clear hn hr hK; generalize a.eval = ρ at *; simp [execOp, e9, go_sem]) rfl rfl hH hK
    refine StepAll.cons ?_ ?_
    · refine HoldStepB.val (by decide) fun a wx γ hn hr hres hpre Ss hH K hK => ?_
      have e10 : a.eval (.tmp 10) = .pointer (some ⟨p, 0, none⟩) := hn 7 (by decide) 10 rfl
      exact hold_run (v := .pointer (some ⟨p, 3, none⟩)) (by clear hn hr hK; generalize a.eval = ρ at *; simp [execOp, e10, go_sem]) rfl rfl hH hK
    refine StepAll.cons ?_ ?_
    · refine HoldStepB.val (by decide) fun a wx γ hn hr hres hpre Ss hH K hK => ?_
      have e11 : a.eval (.tmp 11) = .pointer (some ⟨p, 3, none⟩) := hn 8 (by decide) 11 rfl
      exact hold_run (v := .pointer (some ⟨p, 3, none⟩)) (by clear hn hr hK; generalize a.eval = ρ at *; simp [execOp, e11, go_sem]) rfl rfl hH hK
    refine StepAll.cons ?_ ?_
    · refine HoldStepB.val (by decide) fun a wx γ hn hr hres hpre Ss hH K hK => ?_
      have e12 : a.eval (.tmp 12) = .pointer (some ⟨p, 3, none⟩) := hn 9 (by decide) 12 rfl
      exact hold_run (v := .pointer (some ⟨p, 3, none⟩)) (by clear hn hr hK; generalize a.eval = ρ at *; simp [execOp, e12, go_sem]) rfl rfl hH hK
    refine StepAll.cons ?_ ?_
    · refine HoldStepB.val (by decide) fun a wx γ hn hr hres hpre Ss hH K hK => ?_
      have e13 : a.eval (.tmp 13) = .pointer (some ⟨p, 3, none⟩) := hn 10 (by decide) 13 rfl
      have hk := Hd.nthk 0 hH.rear rfl
      have c0 := (cell_of_heap hk 3).trans (show _ = some (.int .i64 ik) from rfl)
      clear hk
      exact hold_run (v := .int .i64 ik) (by clear hn hr hK; generalize a.eval = ρ at *; simp [execOp, e13, c0, go_sem]) rfl rfl hH hK
    refine StepAll.cons ?_ ?_
    · refine HoldStepB.val (by decide) fun a wx γ hn hr hres hpre Ss hH K hK => ?_
      have e8 : a.eval (.tmp 8) = .int .i64 ok := hn 5 (by decide) 8 rfl
      have e14 : a.eval (.tmp 14) = .int .i64 ik := hn 11 (by decide) 14 rfl
      exact hold_litB [ok, ik] (by clear hn hr hK; generalize a.eval = ρ at *; simp [execOp, e8, e14, go_sem]; rfl) rfl rfl (show 2 ≤ maxLen by decide) rfl rfl hH hK
    refine StepAll.cons ?_ ?_
    · refine HoldStepB.val (by decide) fun a wx γ hn hr hres hpre Ss hH K hK => ?_
      have e0 : a.eval (.tmp 0) = .pointer (some ⟨p, 0, none⟩) := (hr 0 (by decide)).trans rfl
      exact hold_run (v := .pointer (some ⟨p, 0, none⟩)) (by clear hn hr hK; generalize a.eval = ρ at *; simp [execOp, e0, go_sem]) rfl rfl hH hK
    refine StepAll.cons ?_ ?_
    · refine HoldStepB.val (by decide) fun a wx γ hn hr hres hpre Ss hH K hK => ?_
      have e16 : a.eval (.tmp 16) = .pointer (some ⟨p, 0, none⟩) := hn 13 (by decide) 16 rfl
      exact hold_run (v := .pointer (some ⟨p, 0, none⟩)) (by clear hn hr hK; generalize a.eval = ρ at *; simp [execOp, e16, go_sem]) rfl rfl hH hK
    refine StepAll.cons ?_ ?_
    · refine HoldStepB.val (by decide) fun a wx γ hn hr hres hpre Ss hH K hK => ?_
      have e17 : a.eval (.tmp 17) = .pointer (some ⟨p, 0, none⟩) := hn 14 (by decide) 17 rfl
      exact hold_run (v := .pointer (some ⟨p, 3, none⟩)) (by clear hn hr hK; generalize a.eval = ρ at *; simp [execOp, e17, go_sem]) rfl rfl hH hK
    refine StepAll.cons ?_ ?_
    · refine HoldStepB.val (by decide) fun a wx γ hn hr hres hpre Ss hH K hK => ?_
      have e18 : a.eval (.tmp 18) = .pointer (some ⟨p, 3, none⟩) := hn 15 (by decide) 18 rfl
      exact hold_run (v := .pointer (some ⟨p, 7, none⟩)) (by clear hn hr hK; generalize a.eval = ρ at *; simp [execOp, e18, go_sem]) rfl rfl hH hK
    refine StepAll.cons ?_ ?_
    · refine HoldStepB.val (by decide) fun a wx γ hn hr hres hpre Ss hH K hK => ?_
      have e19 : a.eval (.tmp 19) = .pointer (some ⟨p, 7, none⟩) := hn 16 (by decide) 19 rfl
      have hk := Hd.nthk 0 hH.rear rfl
      have c0 := (cell_of_heap hk 7).trans (show _ = some (.slice ad es.length cap) from rfl)
      clear hk
      exact hold_run (v := .agg #[.slice ad es.length cap]) (by clear hn hr hK; generalize a.eval = ρ at *; simp [execOp, e19, c0, go_sem]) rfl rfl hH hK
    refine StepAll.cons ?_ ?_
    · refine HoldStepB.val (by decide) fun a wx γ hn hr hres hpre Ss hH K hK => ?_
      have e20 : a.eval (.tmp 20) = .agg #[.slice ad es.length cap] := hn 17 (by decide) 20 rfl
      have ef : a.eval (.func 76) = .func (.func 76) #[] #[] := rfl
      refine hold_call (f := 76) (args := #[.agg #[.slice ad es.length cap]]) (by clear hn hr hK hH; generalize a.eval = ρ at *; simp [execOp, e20, cf76, ef, go_sem]) ?_ hH hK
      refine (keys_row (Hd.ca (hH.rear.front 1 rfl)) (by omega)).mono fun e2 w2 h => ?_
      obtain ⟨a2, c2, rfl, h2⟩ := h
      exact ⟨(a2, c2), rfl, fun Xs hX => hX.join h2⟩
    refine StepAll.cons ?_ ?_
    · refine HoldStepB.fil 12 (by decide) fun a wx γ hn hr hres hpre Ss hH K hK => ?_
      have e15 : a.eval (.tmp 15) = .slice (some ⟨(γ 12).2, 0, none⟩) 2 2 := hn 12 (by decide) 15 rfl
      have e21 : a.eval (.tmp 21) = .slice (γ 18).1 (kKeys es).length (γ 18).2 := hn 18 (by decide) 21 rfl
      obtain ⟨Zs, hB⟩ := hres 18 (by decide) rfl
      obtain ⟨aa, ca, ea, ia⟩ := row_ints (ks := kKeys es) (show Hd W wx (RowR 3 1 (.slice (γ 18).1 (kKeys es).length (γ 18).2) (kKeys es).length (nums .i64 (kKeys es)) :: Zs) from hB)
      simp only [Value.slice.injEq, true_and] at ea
      obtain ⟨ea1, ea2⟩ := ea
      rw [← ea1] at ia
      exact hold_appsB (b := 12) (zs := [ok, ik]) (ys := kKeys es) Try.underlying33 hi0 hz0 hs0 hy0 (by decide) (.tmp 15) (.tmp 21) rfl hH e15 (Nat.le_refl _) e21 ia (by omega) (fun y => rfl) (fun y => rfl) hK
    refine StepAll.cons ?_ ?_
    · refine HoldStepB.val (by decide) fun a wx γ hn hr hres hpre Ss hH K hK => ?_
      have e22 : a.eval (.tmp 22) = .slice (γ 19).1 (2 + (kKeys es).length) (γ 19).2 := hn 19 (by decide) 22 rfl
      exact hold_run (v := .slice (γ 19).1 (2 + (kKeys es).length) (γ 19).2) (by clear hn hr hK; generalize a.eval = ρ at *; simp [execOp, e22, go_sem]) rfl rfl hH hK
    exact trivial
  case done1 =>
    intro f w9 g9 hv h9
    have er2 : f 2 = .slice (g9 19).1 (2 + (kKeys es).length) (g9 19).2 := hv 20 2 rfl
    have hd : Hd W w9 (RowR 3 1 (.slice (g9 19).1 (2 + (kKeys es).length) (g9 19).2) (2 + (kKeys es).length) (nums .i64 ([ok, ik] ++ kKeys es)) :: RowR 3 1 (.slice (g9 18).1 (kKeys es).length (g9 18).2) (kKeys es).length (nums .i64 (kKeys es)) :: Blk p (.cells #[.int .i64 ok, .int .i64 oe, .int .i64 sent, .int .i64 ik, .int .i64 ie, .int .u64 nx, .int .u64 bt, .slice ad es.length cap, .pointer (some ⟨b, 0, none⟩), .int .i64 xh, .int .i64 xs, .int .i64 xr, .int .i64 xv] 148 (0, 0)) :: CaR (.slice ad es.length cap) es :: Rs) := h9
    obtain ⟨⟨a3, c3⟩, hG18⟩ : ∃ x, g9 18 = x := ⟨_, rfl⟩
    obtain ⟨⟨a2, c2⟩, hG19⟩ : ∃ x, g9 19 = x := ⟨_, rfl⟩
    simp only [hG18, hG19] at hd er2
    clear hv h9 hG18 hG19 cf76
    clear g9
    simp only [patchG, Nat.reduceAdd, Nat.reduceLeDiff, decide_true, decide_false, Bool.and_true, cond_true, cond_false, er2]
    clear er2
    clear H
    have H := hid hd
    clear hd
    go_wp2_with fail
    go_ret
    exact ⟨a2, c2, rfl, H.out.un2⟩
end
end Go.Proofs.Ytpcfmafokkffgaa
namespace Go.Proofs.Ytpcfmafokkffgaa
open Go.RowKit

/-- Both sides, and their store. -/
def Two (W w : World) (b pa pb : Nat) (x y : Se) (L : List T) (m : Int) (Rs : List Res) : Prop :=
  ∃ ada capa adb capb, Hd W w (Sto b L m :: Blk pa (seO b x (.slice ada x.rc.es.length capa)) :: CaR (.slice ada x.rc.es.length capa) x.rc.es :: Blk pb (seO b y (.slice adb y.rc.es.length capb)) :: CaR (.slice adb y.rc.es.length capb) y.rc.es :: Rs)

section
variable {W w : World} {Rs : List Res} {b pa pb : Nat} {x y : Se} {L L2 : List T} {m : Int}
theorem Two.swap (h : Two W w b pa pb x y L m Rs) : Two W w b pb pa y x L m Rs := by
  obtain ⟨ada, capa, adb, capb, h⟩ := h
  exact ⟨adb, capb, ada, capa, (((((h.front 4 rfl).front 4 rfl).front 4 rfl).front 4 rfl).front 4 rfl |> fun _ => ((h.front 4 rfl).front 4 rfl).front 2 rfl)⟩
theorem Two.below (h : Two W w b pa pb x y L m Rs) : Below W.heap.size W w := by
  obtain ⟨_, _, _, _, h⟩ := h
  exact h.below
theorem Two.good (h : Two W w b pa pb x y L m Rs) : Good L := by
  obtain ⟨_, _, _, _, h⟩ := h
  obtain ⟨lb, db, mb, lc, dc, hs⟩ := h.sto
  exact hs.good

theorem seal_two {x' : Se} {s : ByteArray} {r1 r3 r4 r5 : Int} (hx : SeOk x) (hs : s.size ≤ maxLen) (hq : seal19 m L x s = ((r1, r3, r4, r5), x', L2)) (h : Two W w b pa pb x y L m Rs) :
    Calls Try.prog 37 #[.pointer (some ⟨pa, 0, none⟩), .string s] w fun e' w' => e' = .returned (.tuple #[.int .i64 r1, .int .i64 r3, .int .i64 r4, .int .i64 r5]) ∧ Two W w' b pa pb x' y L2 m Rs := by
  obtain ⟨ada, capa, adb, capb, h⟩ := h
  refine (seal19_calls hx hs hq h).mono fun e' w' h' => ⟨h'.1, ada, capa, adb, capb, ?_⟩
  have hh := h'.2.2
  rw [h'.2.1]
  exact hh
theorem step_two {x' : Se} {er : Int} (hq : step19 m L x = (er, x', L2)) (h : Two W w b pa pb x y L m Rs) :
    Calls Try.prog 39 #[.pointer (some ⟨pa, 0, none⟩)] w fun e' w' => e' = .returned (.int .i64 er) ∧ Two W w' b pa pb x' y L2 m Rs := by
  obtain ⟨ada, capa, adb, capb, h⟩ := h
  refine (step19_calls hq h).mono fun e' w' h' => ⟨h'.1, ada, capa, adb, capb, ?_⟩
  have hh := h'.2.2
  rw [h'.2.1]
  exact hh
theorem open_two {x' : Se} {e n c er : Int} {s : ByteArray} (hx : SeOk x) (be : -9223372036854775808 ≤ e) (be' : e ≤ 9223372036854775807) (bn : -9223372036854775808 ≤ n) (bn' : n ≤ 9223372036854775807) (hq : open19 m L x e n c = ((s, er), x', L2)) (h : Two W w b pa pb x y L m Rs) :
    Calls Try.prog 41 #[.pointer (some ⟨pa, 0, none⟩), .int .i64 e, .int .i64 n, .int .i64 c] w fun e' w' => e' = .returned (.tuple #[.string s, .int .i64 er]) ∧ Two W w' b pa pb x' y L2 m Rs := by
  obtain ⟨ada, capa, adb, capb, h⟩ := h
  refine (open19_calls hx be be' bn bn' hq h).mono fun e' w' h' => ?_
  obtain ⟨ad', cap', h1, h2⟩ := h'
  exact ⟨h1, ad', cap', adb, capb, h2⟩
theorem now_two (h : Two W w b pa pb x y L m Rs) :
    Calls Try.prog 43 #[.pointer (some ⟨pa, 0, none⟩)] w fun e' w' => e' = .returned (.tuple #[.int .i64 x.oe, .int .i64 x.sent, .int .i64 x.rc.ie]) ∧ Two W w' b pa pb x y L m Rs := by
  obtain ⟨ada, capa, adb, capb, h⟩ := h
  exact (snow19_calls (h.front 1 rfl)).mono fun e' w' h' => ⟨h'.1, ada, capa, adb, capb, h'.2.front 1 rfl⟩
theorem of_two (h : Two W w b pa pb x y L m Rs) :
    Calls Try.prog 46 #[.pointer (some ⟨pa, 0, none⟩)] w fun e' w' => e' = .returned (.agg #[.int .i64 x.h, .int .i64 x.s, .int .i64 x.r, .int .i64 x.v]) ∧ Two W w' b pa pb x y L m Rs := by
  obtain ⟨ada, capa, adb, capb, h⟩ := h
  exact (of19_calls (h.front 1 rfl)).mono fun e' w' h' => ⟨h'.1, ada, capa, adb, capb, h'.2.front 1 rfl⟩
theorem keys_two (h4 : x.rc.es.length ≤ 4) (h : Two W w b pa pb x y L m Rs) :
    Calls Try.prog 44 #[.pointer (some ⟨pa, 0, none⟩)] w fun e' w' => ∃ a2 c2, e' = .returned (.slice a2 (2 + (kKeys x.rc.es).length) c2) ∧ Two W w' b pa pb x y L m (RowR 3 1 (.slice a2 (2 + (kKeys x.rc.es).length) c2) (2 + (kKeys x.rc.es).length) (nums .i64 ([x.ok, x.rc.ik] ++ kKeys x.rc.es)) :: Rs) := by
  obtain ⟨ada, capa, adb, capb, h⟩ := h
  refine (skeys19_calls h4 ((h.front 2 rfl).front 2 rfl)).mono fun e' w' h' => ?_
  obtain ⟨a2, c2, h1, h2⟩ := h'
  refine ⟨a2, c2, h1, ada, capa, adb, capb, ?_⟩
  have h3 := (((((h2.front 0 rfl).front 5 rfl).front 5 rfl).front 4 rfl).front 4 rfl).front 5 rfl
  exact h3
theorem pair_two :
    Calls Try.prog 48 #[] W fun e' w' => ∃ b pa pb, e' = .returned (.tuple #[.pointer (some ⟨b, 0, none⟩), .pointer (some ⟨pa, 0, none⟩), .pointer (some ⟨pb, 0, none⟩)]) ∧ Two W w' b pa pb (se0 1 2 3 1) (se0 1 3 2 1) pl3 20000 [] := by
  refine (pair_calls (Hd.refl W)).mono fun e' w' h' => ?_
  obtain ⟨b, pa, pb, h1, h2⟩ := h'
  refine ⟨b, pa, pb, h1, none, 0, none, 0, ?_⟩
  have h3 := h2.addCaNil.addCaNil
  exact (((h3.front 4 rfl).front 2 rfl).front 4 rfl).front 4 rfl
end
theorem se0_ok (h s r v : Int) : SeOk (se0 h s r v) := ⟨⟨wIn_zero, fun e he => by simp [se0] at he, by simp [se0, Rises], by simp [se0], by simp [se0], by simp [se0]⟩, by simp [se0], by simp [se0], by simp [se0], by simp [se0]⟩
end Go.Proofs.Ytpcfmafokkffgaa
namespace Go.Proofs.Ytpcfmafokkffgaa
open Go.RowKit

def k1 := seal19 20000 pl3 (se0 1 2 3 1) ⟨#[111, 110, 101]⟩
def k2 := step19 20000 k1.2.2 k1.2.1
def k3 := seal19 20000 k2.2.2 k2.2.1 ⟨#[116, 119, 111]⟩
def k4 := open19 20000 k3.2.2 (se0 1 3 2 1) 1 0 10
def k5 := open19 20000 k4.2.2 k4.2.1 0 0 6
def k6 := open19 20000 k5.2.2 k5.2.1 0 0 6
def k7 := open19 20000 k6.2.2 k6.2.1 1 0 10
def k8 := open19 20000 k7.2.2 k3.2.1 1 0 10
def k9 := open19 20000 k8.2.2 k7.2.1 9 0 10
def k10 := open19 20000 k9.2.2 k9.2.1 (-1) 0 10

theorem field_x (h s r v : Int) (w : World) : (Instr.field 72 (.agg #[.int .i64 h, .int .i64 s, .int .i64 r, .int .i64 v]) 0).run Try.prog w = .ok (.int .i64 h) w := by
  obtain ⟨i0, hi0, hz0, hs0, hy0⟩ := info_int
  simp [Instr.field, run_underlying Try.underlying72, asAgg, sizeOf, typeInfo, hi0, hs0, part, go_sem]
theorem new19_no {W w : World} {Rs : List Res} {b : Nat} {L : List T} {m h s r v : Int} (hy : ¬ (getB L h = true ∧ getB L s = true ∧ getB L r = true)) (hd : Hd W w (Sto b L m :: Rs)) :
    Calls Try.prog 34 #[.pointer (some ⟨b, 0, none⟩), .agg #[.int .i64 h, .int .i64 s, .int .i64 r, .int .i64 v]] w fun e' w' => e' = .returned (.tuple #[.pointer none, .int .i64 1]) ∧ Hd W w' (Sto b L m :: Rs) :=
  (new19_calls h s r v hd).mono fun e w' hh => by
    split at hh
    · exact absurd ‹_› hy
    · exact hh

set_option maxRecDepth 100000 in
set_option maxHeartbeats 16000000 in
theorem fixed19_calls (w : World) : Calls Try.prog 47 #[] w fun e w' => e = .returned (.bool true) ∧ Below w.heap.size w w' := by
  have o1 : SeOk k1.2.1 := seal19_ok (se0_ok 1 2 3 1)
  have o2 : SeOk k2.2.1 := step19_ok o1
  have o3 : SeOk k3.2.1 := seal19_ok o2
  have o4 : SeOk k4.2.1 := open19_ok (se0_ok 1 3 2 1)
  have o5 : SeOk k5.2.1 := open19_ok o4
  have o6 : SeOk k6.2.1 := open19_ok o5
  have o7 : SeOk k7.2.1 := open19_ok o6
  have o8 : SeOk k8.2.1 := open19_ok o3
  have o9 : SeOk k9.2.1 := open19_ok o7
  have o10 : SeOk k10.2.1 := open19_ok o9
  have O1 := hid o1; have O2 := hid o2; have O3 := hid o3; have O4 := hid o4; have O5 := hid o5; have O6 := hid o6; have O7 := hid o7; have O8 := hid o8; have O9 := hid o9; have O10 := hid o10
  clear o1 o2 o3 o4 o5 o6 o7 o8 o9 o10
  go_enter Try.func47, Try.ntmps47
  go_wp2_with fail
  refine (pair_two (W := w)).mono ?_
  rintro e w1 ⟨b, pa, pb, rfl, h1⟩
  have T := hid h1
  clear h1
  go_wp2_with fail
  refine (seal_two (x' := k1.2.1) (L2 := k1.2.2) (se0_ok 1 2 3 1) (by decide) (Prod.ext (show _ = ((0 : Int), (0 : Int), (6 : Int), (0 : Int)) from by decide +kernel) rfl) T.out).mono ?_
  rintro e w2 ⟨rfl, h1⟩
  clear T
  have T := hid h1
  clear h1
  go_wp2_with fail
  refine (step_two (x' := k2.2.1) (L2 := k2.2.2) (Prod.ext (show _ = (0 : Int) from by decide +kernel) rfl) T.out).mono ?_
  rintro e w2 ⟨rfl, h1⟩
  clear T
  have T := hid h1
  clear h1
  go_wp2_with fail
  refine (seal_two (x' := k3.2.1) (L2 := k3.2.2) O2.out (by decide) (Prod.ext (show _ = ((1 : Int), (0 : Int), (10 : Int), (0 : Int)) from by decide +kernel) rfl) T.out).mono ?_
  rintro e w2 ⟨rfl, h1⟩
  clear T
  have T := hid h1
  clear h1
  replace T := hid T.out.swap
  go_wp2_with fail
  refine (open_two (x' := k4.2.1) (L2 := k4.2.2) (se0_ok 1 3 2 1) (by decide) (by decide) (by decide) (by decide) (Prod.ext (show _ = ((⟨#[116, 119, 111]⟩ : ByteArray), (0 : Int)) from by decide +kernel) rfl) T.out).mono ?_
  rintro e w2 ⟨rfl, h1⟩
  clear T
  have T := hid h1
  clear h1
  go_wp2_with fail
  refine (open_two (x' := k5.2.1) (L2 := k5.2.2) O4.out (by decide) (by decide) (by decide) (by decide) (Prod.ext (show _ = ((⟨#[111, 110, 101]⟩ : ByteArray), (0 : Int)) from by decide +kernel) rfl) T.out).mono ?_
  rintro e w2 ⟨rfl, h1⟩
  clear T
  have T := hid h1
  clear h1
  go_wp2_with fail
  refine (open_two (x' := k6.2.1) (L2 := k6.2.2) O5.out (by decide) (by decide) (by decide) (by decide) (Prod.ext (show _ = ((⟨#[]⟩ : ByteArray), (12 : Int)) from by decide +kernel) rfl) T.out).mono ?_
  rintro e w2 ⟨rfl, h1⟩
  clear T
  have T := hid h1
  clear h1
  go_wp2_with fail
  refine (open_two (x' := k7.2.1) (L2 := k7.2.2) O6.out (by decide) (by decide) (by decide) (by decide) (Prod.ext (show _ = ((⟨#[]⟩ : ByteArray), (12 : Int)) from by decide +kernel) rfl) T.out).mono ?_
  rintro e w2 ⟨rfl, h1⟩
  clear T
  have T := hid h1
  clear h1
  replace T := hid T.out.swap
  go_wp2_with fail
  refine (open_two (x' := k8.2.1) (L2 := k8.2.2) O3.out (by decide) (by decide) (by decide) (by decide) (Prod.ext (show _ = ((⟨#[]⟩ : ByteArray), (9 : Int)) from by decide +kernel) rfl) T.out).mono ?_
  rintro e w2 ⟨rfl, h1⟩
  clear T
  have T := hid h1
  clear h1
  replace T := hid T.out.swap
  go_wp2_with fail
  refine (open_two (x' := k9.2.1) (L2 := k9.2.2) O7.out (by decide) (by decide) (by decide) (by decide) (Prod.ext (show _ = ((⟨#[]⟩ : ByteArray), (13 : Int)) from by decide +kernel) rfl) T.out).mono ?_
  rintro e w2 ⟨rfl, h1⟩
  clear T
  have T := hid h1
  clear h1
  go_wp2_with fail
  refine (open_two (x' := k10.2.1) (L2 := k10.2.2) O9.out (by decide) (by decide) (by decide) (by decide) (Prod.ext (show _ = ((⟨#[]⟩ : ByteArray), (1 : Int)) from by decide +kernel) rfl) T.out).mono ?_
  rintro e w2 ⟨rfl, h1⟩
  clear T
  have T := hid h1
  clear h1
  replace T := hid T.out.swap
  have n1 : k8.2.1.oe = 1 := by decide +kernel
  have n2 : k8.2.1.sent = 1 := by decide +kernel
  have n3 : k8.2.1.rc.ie = 0 := by decide +kernel
  have n4 : k10.2.1.oe = 0 := by decide +kernel
  have n5 : k10.2.1.sent = 0 := by decide +kernel
  have n6 : k10.2.1.rc.ie = 1 := by decide +kernel
  have n7 : k8.2.1.h = 1 := by decide +kernel
  have n8 : (kKeys k8.2.1.rc.es).length = 0 := by decide +kernel
  have n9 : (kKeys k10.2.1.rc.es).length = 1 := by decide +kernel
  have N1 := hid n1; have N2 := hid n2; have N3 := hid n3; have N4 := hid n4; have N5 := hid n5; have N6 := hid n6; have N7 := hid n7; have N8 := hid n8; have N9 := hid n9
  clear n1 n2 n3 n4 n5 n6 n7 n8 n9
  go_wp2_with fail
  refine (now_two T.out).mono ?_
  rw [N1.out, N2.out, N3.out]
  rintro e w2 ⟨rfl, h1⟩
  clear T
  have T := hid h1.swap
  clear h1
  go_wp2_with fail
  refine (now_two T.out).mono ?_
  rw [N4.out, N5.out, N6.out]
  rintro e w2 ⟨rfl, h1⟩
  clear T
  have T := hid h1
  clear h1
  go_wp2_with fail
  obtain ⟨ada, capa, adb, capb, hT⟩ := T.out
  refine (new19_no (show ¬ (getB k10.2.2 1 = true ∧ getB k10.2.2 2 = true ∧ getB k10.2.2 0 = true) from by decide +kernel) hT).mono ?_
  rintro e w2 ⟨rfl, h1⟩
  clear T hT
  have T : Hid (Two w w2 b pb pa k10.2.1 k8.2.1 k10.2.2 20000 []) := hid ⟨_, _, _, _, h1⟩
  clear h1
  go_wp2_with fail
  refine (keys_two O10.out.rc.len T.out).mono ?_
  rw [N9.out]
  rintro e w2 ⟨a2, c2, rfl, h1⟩
  clear T
  have T := hid h1.swap
  clear h1
  go_wp2_with fail
  refine (keys_two O8.out.rc.len T.out).mono ?_
  rw [N8.out]
  rintro e w2 ⟨a3, c3, rfl, h1⟩
  clear T
  have T := hid h1
  clear h1
  go_wp2_with fail
  refine (of_two T.out).mono ?_
  rw [N7.out]
  rintro e w2 ⟨rfl, h1⟩
  clear T
  have T := hid h1
  clear h1
  have hf := field_x 1
  go_wp2_with fail
  go_ret
  exact ⟨rfl, T.out.below⟩
end Go.Proofs.Ytpcfmafokkffgaa
namespace Go.Proofs.Ytpcfmafokkffgaa
open Go.RowKit

/-- Two sides: what the first one seals the second one opens. -/
structure Good2 (L : List T) (x y : Se) : Prop where
  g : Good L
  nc : Non L 2
  nd : Non L 3
  le : 3 ≤ L.length
  xo : SeOk x
  yo : SeOk y
  xs : Sd L 2 1 x
  xr : Rv L 3 x.rc
  yr : Rv L 2 y.rc
  yh : y.h = 1

theorem good2_start (g : Good pl3) : Good2 pl3 (se0 1 2 3 1) (se0 1 3 2 1) :=
  ⟨g, ⟨1, ⟨by decide, by decide, rfl⟩⟩, ⟨2, ⟨by decide, by decide, rfl⟩⟩, by decide, se0_ok _ _ _ _, se0_ok _ _ _ _, ⟨rfl, rfl⟩, ⟨by decide, rfl, fun z hz => by simp [se0] at hz⟩, ⟨by decide, rfl, fun z hz => by simp [se0] at hz⟩, rfl⟩

section
variable {W w : World} {Rs : List Res} {b pa pb : Nat} {x y : Se} {L : List T}
theorem Good2.later {L' : List T} {N : Nat} (G : Good2 L x y) (h : Grow L L' N) : Good2 L' x y :=
  ⟨h.2.1, G.nc.ext h.1, G.nd.ext h.1, by have := h.1.len; have := G.le; omega, G.xo, G.yo, G.xs.ext h.1, G.xr.ext h.1, G.yr.ext h.1, G.yh⟩

/-- The other side opens: what it answers is any. -/
theorem open_g {e n c : Int} (be : -9223372036854775808 ≤ e) (be' : e ≤ 9223372036854775807) (bn : -9223372036854775808 ≤ n) (bn' : n ≤ 9223372036854775807) (G : Good2 L x y) (h : Two W w b pa pb x y L 20000 Rs) :
    Calls Try.prog 41 #[.pointer (some ⟨pb, 0, none⟩), .int .i64 e, .int .i64 n, .int .i64 c] w fun e' w' => ∃ t er y' L', open19 20000 L y e n c = ((t, er), y', L') ∧ e' = .returned (.tuple #[.string t, .int .i64 er]) ∧
      Two W w' b pa pb x y' L' 20000 Rs ∧ Good2 L' x y' ∧ Grow L L' 9 ∧ (er = 0 → Sl L' 2 1 e n t c ∧ ¬ Shut y.rc e n ∧ Shut y'.rc e n) ∧ (er ≠ 0 → y' = y) ∧ ∀ e2 n2, 0 ≤ n2 → Shut y.rc e2 n2 → Shut y'.rc e2 n2 := by
  obtain ⟨q, hq⟩ : ∃ q, open19 20000 L y e n c = q := ⟨_, rfl⟩
  obtain ⟨⟨t, er⟩, y', L'⟩ := q
  have ho := open19_ok (m := 20000) (L := L) (e := e) (n := n) (c := c) G.yo
  have hs := open_spec (m := 20000) (e := e) (n := n) (c := c) G.g G.yo G.yr
  have hg := grow_open 20000 e n c y G.g
  rw [hq] at ho hs hg
  obtain ⟨s1, s2, s3, s4, s5⟩ := hs
  dsimp only at *
  rw [G.yh] at s3
  refine (open_two G.yo be be' bn bn' hq h.swap).mono fun e' w' h' => ⟨t, er, y', L', hq, h'.1, h'.2.swap, ?_, hg, s3, s4, s5⟩
  have G' := G.later hg
  exact ⟨G'.g, G'.nc, G'.nd, G'.le, G'.xo, ho, G'.xs, G'.xr, s1, by rw [s2]; exact G.yh⟩
end
end Go.Proofs.Ytpcfmafokkffgaa
namespace Go.Proofs.Ytpcfmafokkffgaa
open Go.RowKit

section
variable {W w w' : World} {R R' : Res} {Rs : List Res} {b pa pb : Nat} {x y : Se} {L L2 : List T} {m : Int}
/-- The first thing behind both sides. -/
theorem Two.first (h : Two W w b pa pb x y L m (R :: Rs)) : ∃ Ss, Hd W w (R :: Ss) ∧ ∀ w' R', Hd W w' (R' :: Ss) → Two W w' b pa pb x y L m (R' :: Rs) := by
  obtain ⟨ada, capa, adb, capb, h⟩ := h
  refine ⟨_, h.front 5 rfl, fun w' R' h' => ⟨ada, capa, adb, capb, ?_⟩⟩
  exact h'.back 5 rfl
theorem Two.nil (h : Two W w b pa pb x y L m Rs) : ∃ Ss, Hd W w Ss ∧ ∀ w' R', Hd W w' (R' :: Ss) → Two W w' b pa pb x y L m (R' :: Rs) := by
  obtain ⟨ada, capa, adb, capb, h⟩ := h
  refine ⟨_, h, fun w' R' h' => ⟨ada, capa, adb, capb, ?_⟩⟩
  exact h'.back 5 rfl
theorem Two.turn {R2 : Res} (h : Two W w b pa pb x y L m (R :: R2 :: Rs)) : Two W w b pa pb x y L m (R2 :: R :: Rs) := by
  obtain ⟨ada, capa, adb, capb, h⟩ := h
  refine ⟨ada, capa, adb, capb, ?_⟩
  exact (h.front 6 rfl).back 5 rfl
theorem Two.still (h : Two W w b pa pb x y L m Rs) (hb : Below w.heap.size w w') : Two W w' b pa pb x y L m Rs := by
  obtain ⟨ada, capa, adb, capb, h⟩ := h
  exact ⟨ada, capa, adb, capb, h.still hb⟩
theorem Two.boxk {o : Obj} (k : Nat) (hk : w.heap.size = k) (h : Two W w b pa pb x y L m Rs) : Two W (w.alloc o) b pa pb x y L m (Blk k o :: Rs) := by
  obtain ⟨Ss, h1, h2⟩ := h.nil
  exact h2 _ _ (h1.boxk k hk)
theorem Two.blk {k : Nat} {o : Obj} (h : Two W w b pa pb x y L m (Blk k o :: Rs)) : w.heap[k]? = some o := by
  obtain ⟨Ss, h1, _⟩ := h.first
  exact h1.blk
end
end Go.Proofs.Ytpcfmafokkffgaa
namespace Go.Proofs.Ytpcfmafokkffgaa
open Go.RowKit

/-- What was sealed: epoch, number, name. -/
abbrev Tr := Int × Int × Int
def trC (l : List Tr) : List Value := l.flatMap fun z => [.int .i64 z.1, .int .i64 z.2.1, .int .i64 z.2.2]
theorem trC_append (l k : List Tr) : trC (l ++ k) = trC l ++ trC k := List.flatMap_append
theorem trC_get {z : Tr} {j : Nat} {v : Value} (hv : [Value.int .i64 z.1, .int .i64 z.2.1, .int .i64 z.2.2][j]? = some v) : ∀ {l : List Tr} {k : Nat}, l[k]? = some z → (trC l)[k * 3 + j]? = some v
  | [], _, h => by simp at h
  | a :: l, 0, h => by
    simp only [List.getElem?_cons_zero, Option.some.injEq] at h
    subst h
    unfold trC
    rw [List.flatMap_cons, List.getElem?_append_left (by have := (List.getElem?_eq_some_iff.1 hv).1; simpa using this)]
    simpa using hv
  | a :: l, k + 1, h => by
    have ih := trC_get hv (l := l) (k := k) (by simpa using h)
    unfold trC
    rw [List.flatMap_cons, List.getElem?_append_right (by simp; omega)]
    rw [← ih]
    unfold trC
    congr 1
    simp
    omega

theorem info_tr : ∃ i, Try.prog.info? 55 = some i ∧ i.zero = some (.agg #[.int .i64 0, .int .i64 0, .int .i64 0]) ∧ i.size = 3 ∧ i.bytes = 24 := info_parts (by kernel_rfl)
section
variable {W w : World} {Rs : List Res} {b pa pb : Nat} {x y : Se} {L : List T} {m : Int}
/-- APPEND ONE. -/
theorem append_tr {ops : Array Oper} {rest : List Oper} {o : Oper} {a : Act} {Q : Exit → Act → World → Prop} {l : List Tr} {n : Nat} {v : Value} (z : Tr) {cs : Array Value}
    (hgd : o.guard = none) (s u : Operand) (ho : o.op = .call { callee := .builtin .append, args := #[s, u], argTypes := #[54, 54] }) (hcs : cs = #[.int .i64 z.1, .int .i64 z.2.1, .int .i64 z.2.2]) (h : Hd W w (RowR 55 3 v n (trC l) :: Rs)) (hs : a.eval s = v) (hu : a.eval u = .slice (some ⟨w.heap.size, 0, none⟩) 1 1) (hn : n ≤ 1000)
    (hK : ∀ g' cap w', Hd W w' (RowR 55 3 (.slice (some ⟨g', 0, none⟩) (n + 1) cap) (n + 1) (trC (l ++ [z])) :: Rs) → wpList Try.prog ops Q rest (a.put o.dst (.slice (some ⟨g', 0, none⟩) (n + 1) cap)) w') :
    wpList Try.prog ops Q (o :: rest) a (w.alloc (.cells cs 55 (0, 0))) := by
  subst hcs
  have hd := h.al (o := .cells #[.int .i64 z.1, .int .i64 z.2.1, .int .i64 z.2.2] 55 (0, 0))
  obtain ⟨i, hi, hz, hsz, hby⟩ := info_tr
  refine wpList_append_lies _ hgd s u 54 ho 0 55 i _ 3 24 Try.underlying54 hi hz hsz hby rfl (by decide) v n _ hs hd.owns ⟨w.heap.size, 0, none⟩ 1 1 [.int .i64 z.1, .int .i64 z.2.1, .int .i64 z.2.2] hu rfl (World.news_of_block (heap_alloc_new _ _)) (by intro u hu; simp only [List.mem_cons, List.not_mem_nil, or_false] at hu; rcases hu with rfl | rfl | rfl <;> rfl) (by decide) (by simp only [maxLen]; omega) (by omega) (Nat.zero_le _) _ rfl ?_
  intro g cap w' ho' hg hgg _
  refine hK g cap w' ?_
  rw [trC_append]
  exact hd.grown ho' hg hgg
/-- Where it lies. -/
theorem Two.tr_cell {g n cap k : Nat} {l : List Tr} {z : Tr} (h : Two W w b pa pb x y L m (RowR 55 3 (.slice (some ⟨g, 0, none⟩) n cap) n (trC l) :: Rs)) (hz : l[k]? = some z) :
    w.cell? ⟨g, k * 3, none⟩ = some (.int .i64 z.1) ∧ w.cell? ⟨g, k * 3 + 1, none⟩ = some (.int .i64 z.2.1) ∧ w.cell? ⟨g, k * 3 + 2, none⟩ = some (.int .i64 z.2.2) := by
  obtain ⟨Ss, h1, _⟩ := h.first
  have key : ∀ {j : Nat} {v : Value}, [Value.int .i64 z.1, .int .i64 z.2.1, .int .i64 z.2.2][j]? = some v → w.cell? ⟨g, k * 3 + j, none⟩ = some v := fun hv => by
    obtain ⟨g2, cap2, h2, h3⟩ := h1.row_cell (trC_get hv hz)
    simp only [Value.slice.injEq, Option.some.injEq, Addr.mk.injEq, and_true, true_and] at h2
    rw [h2.1]
    exact h3
  exact ⟨key (j := 0) rfl, key (j := 1) rfl, key (j := 2) rfl⟩
/-- A row of numbers behind them. -/
theorem Two.num_at {g n cap k : Nat} {cs : List Int} {c : Int} (h : Two W w b pa pb x y L m (RowR 3 1 (.slice (some ⟨g, 0, none⟩) n cap) n (nums .i64 cs) :: Rs)) (hk : cs[k]? = some c) :
    w.cell? ⟨g, k, none⟩ = some (.int .i64 c) ∧ w.frozen? ⟨g, k, none⟩ = false ∧ g < w.heap.size := by
  obtain ⟨Ss, h1, _⟩ := h.first
  obtain ⟨cur, h2, _⟩ := h1.row_heapS
  refine ⟨?_, frozen_of_heap h2 k, (Array.getElem?_eq_some_iff.1 h2).1⟩
  obtain ⟨g2, cap2, h3, h4⟩ := h1.row_cell (j := k) (u := .int .i64 c) (by simp [nums, hk])
  simp only [Value.slice.injEq, Option.some.injEq, Addr.mk.injEq, and_true, true_and] at h3
  rw [h3.1]
  exact h4
theorem Two.row {E : TypeId} (k : Nat) (hk : w.heap.size = k) (h : Two W w b pa pb x y L m Rs) (size : Nat) : Two W (w.alloc (.cells #[] E (0, 0))) b pa pb x y L m (RowR E size (.slice (some ⟨k, 0, none⟩) 0 0) 0 [] :: Rs) := by
  subst hk
  obtain ⟨Ss, h1, h2⟩ := h.nil
  exact h2 _ _ h1.row_newS
end
/-- What was sealed, the texts being their numbers. -/
def SentOk (L : List T) (l : List Tr) : Prop := ∀ k z, l[k]? = some z → Sl L 2 1 z.1 z.2.1 ⟨#[UInt8.ofNat k]⟩ z.2.2 ∧ (0 ≤ z.2.1 ∧ z.2.1 < 256) ∧ z.1 ≤ 100
end Go.Proofs.Ytpcfmafokkffgaa
namespace Go.Proofs.Ytpcfmafokkffgaa
open Go.RowKit Go.ChangeShapes Go.WideShapes

/-- So many integers lie there, each of its kind's range. -/
def NumsIn (k : IntKind) (w : World) (a : Option Addr) (zs : List Int) : Prop :=
  ∀ (i : Nat) (z : Int), zs[i]? = some z → k.min ≤ z ∧ z ≤ k.max ∧ ∃ g o, a = some ⟨g, o, none⟩ ∧ w.cell? ⟨g, o + i, none⟩ = some (.int k z)

theorem NumsIn.later {k : IntKind} {w w' : World} {a : Option Addr} {zs : List Int} (h : NumsIn k w a zs) (hb : Below w.heap.size w w') : NumsIn k w' a zs := fun i z hi => by
  obtain ⟨h1, h2, g, o, ha, hc⟩ := h i z hi
  exact ⟨h1, h2, g, o, ha, (hb.cell (World.block_lt_of_cell? w _ hc)).trans hc⟩

theorem wf_range {k : IntKind} {n : Int} (h : (Lit.int k n).wf = true) : k.min ≤ n ∧ n ≤ k.max := by
  simpa [Lit.wf] using h

theorem addr_spot {w : World} {a : Addr} {v : Value} (h : w.cell? a = some v) : a.spot = none := by
  unfold World.cell? at h
  split at h
  · split at h
    · cases h
    · rename_i hn; simpa using hn
  · cases h

section
variable {H : Type} {enc : TypeId × Value → H} {w : World} {base : Nat} {spare : Nat → Bool} {held : Bool}

theorem open_nums {k : IntKind} {t e : TypeId} {fuel : Nat} {a : Option Addr} {len cap : Nat} {x : DataW H × List MemPlace} (ht : Try.prog.underlying t = some (.slice e)) (he : Try.prog.underlying e = some (.int k)) (hc : Try.prog.cellsOf e = 1)
    (h : DataW.trod enc Try.prog w base spare held fuel t [.slice a len cap] = some x) : ∃ zs : List Int, len = zs.length ∧ len ≤ maxLen ∧ NumsIn k w a zs := by
  rcases Deep.open_slice1 ht hc h with ⟨hcs, _⟩ | ⟨a', l, c, m, n, V, D, Pl, hcs, _, hl, hm, hmm, _, hx⟩
  · simp only [List.cons.injEq, Value.slice.injEq, and_true] at hcs
    obtain ⟨rfl, rfl, rfl⟩ := hcs
    exact ⟨[], rfl, Nat.zero_le _, fun i t hi => by simp at hi⟩
  · simp only [List.cons.injEq, Value.slice.injEq, and_true] at hcs
    obtain ⟨rfl, rfl, rfl⟩ := hcs
    have hle : len ≤ m := by rw [hmm]; split <;> omega
    have each : ∀ i, i < len → ∃ z : Int, w.cell? (a'.add i) = some (.int k z) ∧ k.min ≤ z ∧ z ≤ k.max := fun i hi => by
      obtain ⟨h1, h2⟩ := hx i (by omega)
      obtain ⟨z, hz, _, hw⟩ := DataW.trod_int he h2
      simp only [List.cons.injEq, and_true] at hz
      rw [hz] at h1
      exact ⟨z, h1, wf_range hw⟩
    obtain ⟨f, hf⟩ := Deep.choose_lt each
    refine ⟨(List.range len).map f, by simp, Nat.le_trans hl hm, fun i z hi => ?_⟩
    have hil : i < len := by
      have := (List.getElem?_eq_some_iff.1 hi).1
      simpa using this
    have hz : z = f i := by
      rw [List.getElem?_map, List.getElem?_range hil] at hi
      simpa using hi.symm
    subst hz
    obtain ⟨h1, h2⟩ := hf i hil
    obtain ⟨h10, _⟩ := hf 0 (by omega)
    have hspot : a'.spot = none := addr_spot (by simpa [Addr.add] using h10)
    obtain ⟨g, o, sp⟩ := a'
    simp only at hspot
    subst hspot
    rw [Addr.add_lit] at h1
    exact ⟨h2.1, h2.2, g, o, rfl, h1⟩

end
end Go.Proofs.Ytpcfmafokkffgaa
