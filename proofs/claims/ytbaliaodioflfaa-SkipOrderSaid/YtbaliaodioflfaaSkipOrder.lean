/-
  SkipOrder returns true, and writes nothing that was there. For every input.
-/
import Derived.Test.YtbaliaodioflfaaSkipS
import Derived.Test.YtbaliaodioflfaaArgsC
namespace Go.Proofs.Ytbaliaodioflfaa
open Go.RowKit

/-- The entries of these epochs, and no others. -/
def Has (es : List En) (ks : List Int) : Prop := ∀ x : En, x ∈ es ↔ ∃ k ∈ ks, x = ⟨k, 7, 0, 0⟩
theorem rises_ext : ∀ {es fs : List En}, Rises es → Rises fs → (∀ x, x ∈ es ↔ x ∈ fs) → es = fs
  | [], [], _, _, _ => rfl
  | [], y :: fs, _, _, h => by have := (h y).2 (by simp); cases this
  | x :: es, [], _, _, h => by have := (h x).1 (by simp); cases this
  | x :: es, y :: fs, h1, h2, h => by
    have a := (h x).1 (by simp)
    have b := (h y).2 (by simp)
    have e : x = y := by
      rcases List.mem_cons.1 a with a | a
      · exact a
      · rcases List.mem_cons.1 b with b | b
        · exact b.symm
        · have := h1.head y b; have := h2.head x a; omega
    subst e
    congr 1
    refine rises_ext h1.tail h2.tail fun z => ?_
    constructor
    · intro hz
      rcases List.mem_cons.1 ((h z).1 (List.mem_cons_of_mem _ hz)) with rfl | h3
      · exact absurd (h1.head z hz) (by omega)
      · exact h3
    · intro hz
      rcases List.mem_cons.1 ((h z).2 (List.mem_cons_of_mem _ hz)) with rfl | h3
      · exact absurd (h2.head z hz) (by omega)
      · exact h3
theorem has_put {es E2 : List En} {ks : List Int} {k : Int} {g : En} {b : Bool} (hr : Rises es) (h3 : es.length ≤ 3) (h : Has es ks) (hk : kPut es ⟨k, 7, 0, 0⟩ = (E2, g, b)) :
    b = false ∧ Rises E2 ∧ E2.length ≤ es.length + 1 ∧ ∀ ls : List Int, (∀ x, x ∈ ls ↔ x = k ∨ x ∈ ks) → Has E2 ls := by
  have hr2 : Rises E2 := by have := kPut_rises hr (by omega) (⟨k, 7, 0, 0⟩ : En); rwa [hk] at this
  have hil := ins_length hr ⟨k, 7, 0, 0⟩
  rw [kPut_eq hr (by omega)] at hk
  unfold rPut at hk
  rw [if_pos (by omega)] at hk
  simp only [Prod.mk.injEq] at hk
  obtain ⟨rfl, _, rfl⟩ := hk
  refine ⟨rfl, hr2, hil.1, fun ls hls x => ?_⟩
  rw [mem_ins]
  constructor
  · rintro (rfl | ⟨hx, _⟩)
    · exact ⟨k, (hls k).2 (.inl rfl), rfl⟩
    · obtain ⟨m, hm, rfl⟩ := (h x).1 hx
      exact ⟨m, (hls m).2 (.inr hm), rfl⟩
  · rintro ⟨m, hm, rfl⟩
    by_cases e : m = k
    · subst e; exact .inl rfl
    · exact .inr ⟨(h _).2 ⟨m, ((hls m).1 hm).resolve_left e, rfl⟩, e⟩
theorem rGet_mem7 {es : List En} (h : Rises es) {x : En} (hx : x ∈ es) : rGet es x.ep = (x, true) := by
  induction es with
  | nil => cases hx
  | cons y es ih =>
    unfold rGet
    rw [List.find?_cons]
    rcases List.mem_cons.1 hx with rfl | hx
    · simp
    · have := h.head x hx
      rw [show decide (y.ep = x.ep) = false by simp; omega]
      exact ih h.tail hx
theorem has_get {es : List En} {ks : List Int} {k : Int} (hr : Rises es) (h : Has es ks) (hk : k ∈ ks) : kGet es k = (⟨k, 7, 0, 0⟩, true) := by
  rw [kGet_eq hr]
  exact rGet_mem7 hr ((h ⟨k, 7, 0, 0⟩).2 ⟨k, hk, rfl⟩)
/-- What is left when some were dropped. -/
def Left (fs es : List En) (ks : List Int) : Prop := ∀ x : En, x ∈ fs ↔ x ∈ es ∧ x.ep ∉ ks
theorem left_drop {es fs c : List En} {ks ls : List Int} {k : Int} {y z : En} {was no : Bool} (hr : Rises fs) (h : Left fs es ks) (hls : ∀ x, x ∈ ls ↔ x = k ∨ x ∈ ks) (hy : kGet fs k = (y, was)) (hc : kDrop fs k = c) (hz : kGet c k = (z, no)) :
    no = false ∧ Rises c ∧ Left c es ls ∧ (was = true → c.length + 1 = fs.length) ∧ (was = false → c.length = fs.length) := by
  have hrc : Rises c := by rw [← hc]; exact kDrop_rises hr k
  rw [kGet_eq hrc] at hz
  have hn := hc
  rw [kDrop_eq hr] at hn
  have hnone : rGet c k = (En.zero, false) := by
    rw [← hn]
    unfold rGet
    rw [List.find?_eq_none.2 (fun x hx => by simp [without] at hx; simp; exact hx.2)]
  rw [hnone] at hz
  cases hz
  refine ⟨rfl, hrc, fun x => ?_, fun hw => ?_, fun hw => ?_⟩
  · rw [← hn]
    simp only [without, List.mem_filter, decide_eq_true_eq, ne_eq]
    rw [h x, hls]
    constructor
    · rintro ⟨⟨a, b⟩, d⟩; exact ⟨a, fun e => e.elim d b⟩
    · rintro ⟨a, b⟩; exact ⟨⟨a, fun e => b (.inr e)⟩, fun e => b (.inl e)⟩
  · subst hw
    unfold kGet at hy
    unfold kDrop at hc
    by_cases hi : isAt fs k = true
    · rw [if_pos hi] at hc
      obtain ⟨e, he, _⟩ := isAt_some hi
      have hlt := (List.getElem?_eq_some_iff.1 he).1
      rw [← hc, List.length_eraseIdx, if_pos hlt]
      omega
    · rw [if_neg hi] at hy; cases hy
  · subst hw
    unfold kGet at hy
    unfold kDrop at hc
    by_cases hi : isAt fs k = true
    · rw [if_pos hi] at hy; cases hy
    · rw [if_neg hi] at hc; rw [← hc]
theorem left_all {es fs : List En} {ks : List Int} (h : Has es ks) (hl : Left fs es ks) : fs = [] := by
  cases fs with
  | nil => rfl
  | cons x fs =>
    obtain ⟨h1, h2⟩ := (hl x).1 (by simp)
    obtain ⟨k, hk, rfl⟩ := (h x).1 h1
    exact absurd hk h2

theorem blks_ne {W w : World} {Rs : List Res} {a b : Nat} {o p : Obj} (h : Hd W w (Blk a o :: Blk b p :: Rs)) : ¬ a = b := by
  intro e
  subst e
  obtain ⟨_, f, hf, _, _, g, hg, _, hd, _⟩ := h
  have hf' : f = fun j => if j = a then some o else none := hf
  have hg' : g = fun j => if j = a then some p else none := hg
  subst hf' hg'
  exact hd a (by simp) (.inr (by simp))
theorem mem_take_succ {l : List Int} {j : Nat} {k : Int} (h : l[j]? = some k) (x : Int) : x ∈ l.take (j + 1) ↔ x = k ∨ x ∈ l.take j := by
  rw [List.take_add_one, h]
  simp [or_comm]
theorem mem_drop_pred {l : List Int} {j : Nat} {k : Int} (h : l[j]? = some k) (x : Int) : x ∈ l.drop j ↔ x = k ∨ x ∈ l.drop (j + 1) := by
  obtain ⟨hl, rfl⟩ := List.getElem?_eq_some_iff.1 h
  rw [List.drop_eq_getElem_cons hl]
  simp only [List.mem_cons]

set_option maxRecDepth 100000 in
set_option maxHeartbeats 64000000 in
theorem skipOrder_walk (a0 : Option Addr) (len0 cap0 : Nat) (z0 : List Int) (W : World) (e0 : len0 = z0.length) (m0 : len0 ≤ maxLen) (i0 : NumsIn .i64 W a0 z0) :
    Calls Try.prog 19 #[.slice a0 len0 cap0] W fun e w' => e = .returned (.bool true) ∧ Below W.heap.size W w' := by
  have mixed : Try.prog.follows .mixedOrders = true := by kernel_rfl
  have E0 := hid e0
  have I0 := hid i0
  have hm0 : len0 ≤ 9223372036854775807 := by unfold maxLen at m0; exact m0
  clear e0 i0 m0
  have H0 := hid ((Hd.refl W).boxk (o := .cells #[.slice none 0 0] 85 (0, 0)) W.heap.size rfl |>.boxk (o := .cells #[.slice none 0 0] 85 (0, 0)) (W.heap.size + 1) (by simp) |>.addCaNil |>.addCaNil)
  obtain ⟨N, hN⟩ : ∃ N : Nat, min (len0 : Int) 4 = (N : Int) := ⟨min len0 4, by omega⟩
  have hN4 : N ≤ 4 := by omega
  have hNl : N ≤ len0 := by omega
  go_enter Try.func19, Try.ntmps19
  go_wp2_with fail
  clear hN
  go_loopw [6] (fun i wr => ∃ (j : Nat) (u v : Value) (es fs : List En), j ≤ N ∧ i = .int .i64 j ∧ Hid (Rises es ∧ Rises fs ∧ Has es (z0.take j) ∧ Has fs ((z0.take N).drop (N - j))) ∧ es.length ≤ j ∧ fs.length ≤ j ∧ Hid (Hd W wr [CaR u es, CaR v fs, Blk (W.heap.size + 1) (.cells #[v] 85 (0, 0)), Blk W.heap.size (.cells #[u] 85 (0, 0))])) (fun i _ => N - (intOf i).toNat)
  case atStart => exact ⟨0, _, _, [], [], Nat.zero_le _, rfl, hid ⟨List.Pairwise.nil, List.Pairwise.nil, fun x => by simp, fun x => by simp⟩, Nat.zero_le _, Nat.zero_le _, H0⟩
  case round =>
    clear H0
    obtain ⟨j, u, v, es, fs, hj, rfl, HR, hel, hfl, H⟩ := hrel
    obtain ⟨wo, hwo⟩ : ∃ wo : World, wo = wr := ⟨_, rfl⟩
    rw [← hwo] at H ⊢
    clear hwo wr
    obtain ⟨av, cv, rfl⟩ := H.out.ca_form
    obtain ⟨bv, dv, rfl⟩ := H.out.swap.ca_form
    have zj0 : (0 : Int) ≤ (j : Int) := by omega
    by_cases hgo : j < N
    · have d1 : decide ((j : Int) < (N : Int)) = true := by simp; omega
      have d1' : decide (j < N) = true := by simp; omega
      obtain ⟨k, hz⟩ : ∃ k, z0[j]? = some k := ⟨z0[j]'(by rw [← E0.out]; omega), List.getElem?_eq_getElem _⟩
      obtain ⟨n2, hn2⟩ : ∃ n2 : Nat, N - 1 - j = n2 := ⟨_, rfl⟩
      obtain ⟨q, hzq⟩ : ∃ k, z0[n2]? = some k := ⟨z0[n2]'(by rw [← E0.out]; omega), List.getElem?_eq_getElem _⟩
      obtain ⟨kl, kh, g, og, rfl, x0⟩ := I0.out j k hz
      obtain ⟨ql, qh, g2, og2, hg2, y0⟩ := I0.out n2 q hzq
      simp only [Option.some.injEq, Addr.mk.injEq, and_true] at hg2
      obtain ⟨rfl, rfl⟩ := hg2
      have zj1 : (j : Int) < (len0 : Int) := by omega
      have zn0 : (0 : Int) ≤ (n2 : Int) := by omega
      have zn1 : (n2 : Int) < (len0 : Int) := by omega
      obtain ⟨⟨E2, ⟨ga, gk, gx, gy⟩, b⟩, hE2⟩ : ∃ r, kPut es ⟨k, 7, 0, 0⟩ = r := ⟨_, rfl⟩
      obtain ⟨⟨F2, ⟨ha, jk, jx, jy⟩, c⟩, hF2⟩ : ∃ r, kPut fs ⟨q, 7, 0, 0⟩ = r := ⟨_, rfl⟩
      obtain ⟨rfl, hr2, hl2, hh2⟩ := has_put HR.out.1 (by omega) HR.out.2.2.1 hE2
      obtain ⟨rfl, hr3, hl3, hh3⟩ := has_put HR.out.2.1 (by omega) HR.out.2.2.2 hF2
      have HR2 := hid (show Rises E2 ∧ Rises F2 ∧ Has E2 (z0.take (j + 1)) ∧ Has F2 ((z0.take N).drop (N - (j + 1))) from ⟨hr2, hr3, hh2 _ (mem_take_succ hz), hh3 _ (by
        have hq : (z0.take N)[n2]? = some q := by rw [List.getElem?_take]; rw [if_pos (by omega)]; exact hzq
        have := mem_drop_pred hq
        rw [show n2 + 1 = N - j by omega, show n2 = N - (j + 1) by omega] at this
        exact this)⟩)
      have HE2 := hid hE2
      have HF2 := hid hF2
      have hs1 : IntKind.i64.wrap ((N : Int) - 1) = (N : Int) - 1 := IntWalk.i64_in _ (by omega)
      have hs2 : IntKind.i64.wrap ((N : Int) - 1 - (j : Int)) = (n2 : Int) := by rw [IntWalk.i64_in _ (by omega)]; omega
      clear hz hzq hE2 hF2 hr2 hr3 hh2 hh3 hn2
      have d1n : decide ((n2 : Int) < (len0 : Int)) = true := by simp; omega
      go_wp2_with fail
      have cf52 : ∀ args w, (callFunc 52 args).run Try.prog w = .ok (.enter 52 args) w := fun args w => by kernel_rfl
      refine wp_region_hold [[], [], [], [1, 2], [3], [4], [0, 5], [6], [7], [7], [7], [], [], [8, 11], [9, 12], [10]] [[], [], [], [], [], [], [6], [6], [6], [], [], [11], [12], [6, 11], [12], []] ([some 33, some 34, some 35, some 36, some 37, some 38, some 39, some 32, some 40, some 41, some 42, some 7, some 8, none, none, some 9] : List (Option Nat)) ([none, none, none, none, none, none, none, none, none, none, none, some 13, some 14, none, none, none] : List (Option Nat)) (
          (fun _ => .agg #[.slice av es.length cv]) ::
          (fun _ => .slice (some ⟨g, og, none⟩) len0 cap0) ::
          (fun _ => .int .i64 (j : Nat)) ::
          (fun _ => .pointer (some ⟨g, og + j, none⟩)) ::
          (fun _ => .int .i64 k) ::
          (fun _ => .agg #[.int .i64 k, .int .i64 7, .int .u64 0, .int .u64 0]) ::
          (fun gs => .tuple #[.agg #[.slice (gs.getD 0 default).1 E2.length (gs.getD 0 default).2], .agg #[.int .i64 ga, .int .i64 gk, .int .u64 gx, .int .u64 gy], .bool false]) ::
          (fun gs => .tuple #[.agg #[.slice (gs.getD 0 default).1 E2.length (gs.getD 0 default).2], .agg #[.int .i64 ga, .int .i64 gk, .int .u64 gx, .int .u64 gy], .bool false]) ::
          (fun gs => .agg #[.slice (gs.getD 0 default).1 E2.length (gs.getD 0 default).2]) ::
          (fun _ => .agg #[.int .i64 ga, .int .i64 gk, .int .u64 gx, .int .u64 gy]) ::
          (fun _ => .bool false) ::
          (fun gs => .pointer (some ⟨(gs.getD 0 default).2, 0, none⟩)) ::
          (fun gs => .pointer (some ⟨(gs.getD 0 default).2, 0, none⟩)) ::
          (fun _ => undef) ::
          (fun _ => undef) ::
          (fun _ => .bool false) :: []) ((fun _ => []) :: (fun _ => []) :: (fun _ => []) :: (fun _ => []) :: (fun _ => []) :: (fun _ => []) :: (fun gs => [CaR (.slice (gs.getD 0 default).1 E2.length (gs.getD 0 default).2) E2]) :: (fun _ => []) :: (fun _ => []) :: (fun _ => []) :: (fun _ => []) :: (fun gs => [Blk (gs.getD 0 default).2 (.cells #[.slice none 0 0] 85 (0, 0))]) :: (fun gs => [Blk (gs.getD 0 default).2 (.cells #[.int .i64 0, .int .i64 0, .int .u64 0, .int .u64 0] 91 (0, 0))]) :: (fun _ => []) :: (fun _ => []) :: (fun _ => []) :: ([] : List (List Gh → List Res))) ((fun _ => []) :: (fun _ => []) :: (fun _ => []) :: (fun _ => []) :: (fun _ => []) :: (fun _ => []) :: (fun _ => []) :: (fun _ => []) :: (fun _ => []) :: (fun _ => []) :: (fun _ => []) :: (fun gs => [Blk (gs.getD 1 default).2 (.cells #[.slice (gs.getD 0 default).1 E2.length (gs.getD 0 default).2] 85 (0, 0))]) :: (fun gs => [Blk (gs.getD 0 default).2 (.cells #[.int .i64 ga, .int .i64 gk, .int .u64 gx, .int .u64 gy] 91 (0, 0))]) :: (fun _ => []) :: (fun _ => []) :: (fun _ => []) :: ([] : List (List Gh → List Res))) (by kernel_rfl) (by kernel_rfl) rfl (hold_lt (n := 171) (by decide)) H.out (hold_nil (fs := [13, 14]) (by decide) rfl ?_) (hold_fit (by decide)) ?_ ?_ (fun t => decide (7 ≤ t) && decide (t ≤ 9) || decide (32 ≤ t) && decide (t ≤ 42)) (by decide) ?_
      · intro s gs hs
        simp only [List.mem_cons, List.not_mem_nil, or_false] at hs
        rcases hs with rfl | rfl <;> rfl
      · repeat (refine StepAll.cons (by first | exact trivial | exact fun g => rfl) ?_)
        exact trivial
      ·
        refine StepAll.cons ?_ ?_
        · refine HoldStep.val (by decide) fun a wx γ hn hr Ss hH K hK => ?_
          have e3 : a.eval (.tmp 3) = .pointer (some ⟨W.heap.size, 0, none⟩) := (hr 3 (by decide)).trans rfl
          have hB := Hd.rear hH
          have kA0 := (cell_of_heap (Hd.nthk 3 hB rfl) 0).trans (show _ = some (.slice av es.length cv) from rfl)
          exact hold_run (v := .agg #[.slice av es.length cv]) (by clear hn hr hK; generalize a.eval = ρ at *; simp [execOp, e3, kA0, go_sem]) rfl rfl hH hK
        refine StepAll.cons ?_ ?_
        · refine HoldStep.val (by decide) fun a wx γ hn hr Ss hH K hK => ?_
          have e0 : a.eval (.tmp 0) = .slice (some ⟨g, og, none⟩) len0 cap0 := (hr 0 (by decide)).trans rfl
          exact hold_run (v := .slice (some ⟨g, og, none⟩) len0 cap0) (by clear hn hr hK; generalize a.eval = ρ at *; simp [execOp, e0, go_sem]) rfl rfl hH hK
        refine StepAll.cons ?_ ?_
        · refine HoldStep.val (by decide) fun a wx γ hn hr Ss hH K hK => ?_
          have e6 : a.eval (.tmp 6) = .int .i64 (j : Nat) := (hr 6 (by decide)).trans rfl
          exact hold_run (v := .int .i64 (j : Nat)) (by clear hn hr hK; generalize a.eval = ρ at *; simp [execOp, e6, go_sem]) rfl rfl hH hK
        refine StepAll.cons ?_ ?_
        · refine HoldStep.val (by decide) fun a wx γ hn hr Ss hH K hK => ?_
          have e34 : a.eval (.tmp 34) = .slice (some ⟨g, og, none⟩) len0 cap0 := hn 1 (by decide) 34 rfl
          have e35 : a.eval (.tmp 35) = .int .i64 (j : Nat) := hn 2 (by decide) 35 rfl
          exact hold_run (v := .pointer (some ⟨g, og + j, none⟩)) (by clear hn hr hK; generalize a.eval = ρ at *; simp [execOp, e34, e35, zj0, zj1, go_sem]) rfl rfl hH hK
        refine StepAll.cons ?_ ?_
        · refine HoldStep.val (by decide) fun a wx γ hn hr Ss hH K hK => ?_
          have e36 : a.eval (.tmp 36) = .pointer (some ⟨g, og + j, none⟩) := hn 3 (by decide) 36 rfl
          have hB := Hd.rear hH
          have kx := bcl hB.below x0
          exact hold_run (v := .int .i64 k) (by clear hn hr hK; generalize a.eval = ρ at *; simp [execOp, e36, kx, go_sem]) rfl rfl hH hK
        refine StepAll.cons ?_ ?_
        · refine HoldStep.val (by decide) fun a wx γ hn hr Ss hH K hK => ?_
          have ec := evc a
          have e37 : a.eval (.tmp 37) = .int .i64 k := hn 4 (by decide) 37 rfl
          exact hold_run (v := .agg #[.int .i64 k, .int .i64 7, .int .u64 0, .int .u64 0]) (by clear hn hr hK; generalize a.eval = ρ at *; simp [execOp, ec, e37, go_sem]) rfl rfl hH hK
        refine StepAll.cons ?_ ?_
        · refine HoldStep.val (by decide) fun a wx γ hn hr Ss hH K hK => ?_
          have e33 : a.eval (.tmp 33) = .agg #[.slice av es.length cv] := hn 0 (by decide) 33 rfl
          have e38 : a.eval (.tmp 38) = .agg #[.int .i64 k, .int .i64 7, .int .u64 0, .int .u64 0] := hn 5 (by decide) 38 rfl
          have ef : a.eval (.func 52) = .func (.func 52) #[] #[] := rfl
          have hca := ((Hd.rear hH).front 0 rfl).ca
          exact hold_call (by clear hn hr hK hH; generalize a.eval = ρ at *; simp [execOp, e33, e38, cf52, ef, go_sem]) ((put16_h k 7 0 0 HE2.out HR.out.1 (by omega) hca).mono fun e w2 h => by obtain ⟨x, h1, h2⟩ := h; exact ⟨x, h1, h2 _⟩) hH hK
        refine StepAll.cons ?_ ?_
        · refine HoldStep.val (by decide) fun a wx γ hn hr Ss hH K hK => ?_
          have e39 : a.eval (.tmp 39) = .tuple #[.agg #[.slice (γ 6).1 E2.length (γ 6).2], .agg #[.int .i64 ga, .int .i64 gk, .int .u64 gx, .int .u64 gy], .bool false] := hn 6 (by decide) 39 rfl
          exact hold_run (v := .tuple #[.agg #[.slice (γ 6).1 E2.length (γ 6).2], .agg #[.int .i64 ga, .int .i64 gk, .int .u64 gx, .int .u64 gy], .bool false]) (by clear hn hr hK; generalize a.eval = ρ at *; simp [execOp, e39, go_sem]) rfl rfl hH hK
        refine StepAll.cons ?_ ?_
        · refine HoldStep.val (by decide) fun a wx γ hn hr Ss hH K hK => ?_
          have e32 : a.eval (.tmp 32) = .tuple #[.agg #[.slice (γ 6).1 E2.length (γ 6).2], .agg #[.int .i64 ga, .int .i64 gk, .int .u64 gx, .int .u64 gy], .bool false] := hn 7 (by decide) 32 rfl
          exact hold_run (v := .agg #[.slice (γ 6).1 E2.length (γ 6).2]) (by clear hn hr hK; generalize a.eval = ρ at *; simp [execOp, e32, go_sem]) rfl rfl hH hK
        refine StepAll.cons ?_ ?_
        · refine HoldStep.val (by decide) fun a wx γ hn hr Ss hH K hK => ?_
          have e32 : a.eval (.tmp 32) = .tuple #[.agg #[.slice (γ 6).1 E2.length (γ 6).2], .agg #[.int .i64 ga, .int .i64 gk, .int .u64 gx, .int .u64 gy], .bool false] := hn 7 (by decide) 32 rfl
          exact hold_run (v := .agg #[.int .i64 ga, .int .i64 gk, .int .u64 gx, .int .u64 gy]) (by clear hn hr hK; generalize a.eval = ρ at *; simp [execOp, e32, go_sem]) rfl rfl hH hK
        refine StepAll.cons ?_ ?_
        · refine HoldStep.val (by decide) fun a wx γ hn hr Ss hH K hK => ?_
          have e32 : a.eval (.tmp 32) = .tuple #[.agg #[.slice (γ 6).1 E2.length (γ 6).2], .agg #[.int .i64 ga, .int .i64 gk, .int .u64 gx, .int .u64 gy], .bool false] := hn 7 (by decide) 32 rfl
          exact hold_run (v := .bool false) (by clear hn hr hK; generalize a.eval = ρ at *; simp [execOp, e32, go_sem]) rfl rfl hH hK
        refine StepAll.cons ?_ ?_
        · refine HoldStep.val (by decide) fun a wx γ hn hr Ss hH K hK => ?_
          exact hold_new (obj := .cells #[.slice none 0 0] 85 (0, 0)) (v := .pointer (some ⟨wx.heap.size, 0, none⟩)) (by clear hn hr hK; generalize a.eval = ρ at *; simp [execOp, go_sem]) rfl rfl hH hK
        refine StepAll.cons ?_ ?_
        · refine HoldStep.val (by decide) fun a wx γ hn hr Ss hH K hK => ?_
          exact hold_new (obj := .cells #[.int .i64 0, .int .i64 0, .int .u64 0, .int .u64 0] 91 (0, 0)) (v := .pointer (some ⟨wx.heap.size, 0, none⟩)) (by clear hn hr hK; generalize a.eval = ρ at *; simp [execOp, go_sem]) rfl rfl hH hK
        refine StepAll.cons ?_ ?_
        · refine HoldStep.fil 11 (by decide) fun a wx γ hn hr Ss hH K hK => ?_
          have e7 : a.eval (.tmp 7) = .pointer (some ⟨(γ 11).2, 0, none⟩) := hn 11 (by decide) 7 rfl
          have e40 : a.eval (.tmp 40) = .agg #[.slice (γ 6).1 E2.length (γ 6).2] := hn 8 (by decide) 40 rfl
          have hH2 : Hd W wx (Blk (γ 11).2 (.cells #[.slice none 0 0] 85 (0, 0)) :: Ss) := hH
          have hk := hH2.blk
          have c0 := (cell_of_heap hk 0).trans (show _ = some (.slice none 0 0) from rfl)
          have cf := frozen_of_heap hk
          clear hk hH
          exact hold_fil (w' := (wx.setCell ⟨(γ 11).2, 0, none⟩ (.slice (γ 6).1 E2.length (γ 6).2))) (by clear hn hr hK hH2; generalize a.eval = ρ at *; simp [execOp, e7, e40, c0, cf, go_sem]) (show Hd W _ (Blk (γ 11).2 _ :: Ss) from (hH2.set 0 (.slice (γ 6).1 E2.length (γ 6).2))) hK
        refine StepAll.cons ?_ ?_
        · refine HoldStep.fil 12 (by decide) fun a wx γ hn hr Ss hH K hK => ?_
          have e8 : a.eval (.tmp 8) = .pointer (some ⟨(γ 12).2, 0, none⟩) := hn 12 (by decide) 8 rfl
          have e41 : a.eval (.tmp 41) = .agg #[.int .i64 ga, .int .i64 gk, .int .u64 gx, .int .u64 gy] := hn 9 (by decide) 41 rfl
          have hH2 : Hd W wx (Blk (γ 12).2 (.cells #[.int .i64 0, .int .i64 0, .int .u64 0, .int .u64 0] 91 (0, 0)) :: Ss) := hH
          have hk := hH2.blk
          have c0 := (cell_of_heap hk 0).trans (show _ = some (.int .i64 0) from rfl)
          have c1 := (cell_of_heap hk 1).trans (show _ = some (.int .i64 0) from rfl)
          have c2 := (cell_of_heap hk 2).trans (show _ = some (.int .u64 0) from rfl)
          have c3 := (cell_of_heap hk 3).trans (show _ = some (.int .u64 0) from rfl)
          have cf := frozen_of_heap hk
          clear hk hH
          exact hold_fil (w' := ((((wx.setCell ⟨(γ 12).2, 0, none⟩ (.int .i64 ga)).setCell ⟨(γ 12).2, 1, none⟩ (.int .i64 gk)).setCell ⟨(γ 12).2, 2, none⟩ (.int .u64 gx)).setCell ⟨(γ 12).2, 3, none⟩ (.int .u64 gy))) (by clear hn hr hK hH2; generalize a.eval = ρ at *; simp [execOp, e8, e41, c0, c1, c2, c3, cf, go_sem]) (show Hd W _ (Blk (γ 12).2 _ :: Ss) from ((((hH2.set 0 (.int .i64 ga)).set 1 (.int .i64 gk)).set 2 (.int .u64 gx)).set 3 (.int .u64 gy))) hK
        refine StepAll.cons ?_ ?_
        · refine HoldStep.val (by decide) fun a wx γ hn hr Ss hH K hK => ?_
          have e42 : a.eval (.tmp 42) = .bool false := hn 10 (by decide) 42 rfl
          exact hold_run (v := .bool false) (by clear hn hr hK; generalize a.eval = ρ at *; simp [execOp, e42, go_sem]) rfl rfl hH hK
        exact trivial
      intro f w9 g9 hv h9
      have er7 : f 7 = .pointer (some ⟨(g9 11).2, 0, none⟩) := hv 11 7 rfl
      have er8 : f 8 = .pointer (some ⟨(g9 12).2, 0, none⟩) := hv 12 8 rfl
      have er9 : f 9 = .bool false := hv 15 9 rfl
      have hd : Hd W w9 ([CaR (.slice (g9 6).1 E2.length (g9 6).2) E2, Blk (g9 11).2 (.cells #[.slice (g9 6).1 E2.length (g9 6).2] 85 (0, 0)), Blk (g9 12).2 (.cells #[.int .i64 ga, .int .i64 gk, .int .u64 gx, .int .u64 gy] 91 (0, 0))] ++ [CaR (.slice av es.length cv) es, CaR (.slice bv fs.length dv) fs, Blk (W.heap.size + 1) (.cells #[.slice bv fs.length dv] 85 (0, 0)), Blk (W.heap.size) (.cells #[.slice av es.length cv] 85 (0, 0))]) := h9
      obtain ⟨⟨adD, capD⟩, hG6⟩ : ∃ x, g9 6 = x := ⟨_, rfl⟩
      obtain ⟨⟨_, kd⟩, hG11⟩ : ∃ x, g9 11 = x := ⟨_, rfl⟩
      obtain ⟨⟨_, kg⟩, hG12⟩ : ∃ x, g9 12 = x := ⟨_, rfl⟩
      simp only [hG6, hG11, hG12, List.cons_append, List.nil_append] at hd er7 er8 er9
      clear hv h9 hG6 hG11 hG12 cf52
      clear g9
      simp only [patchG, Nat.reduceAdd, Nat.reduceLeDiff, decide_true, decide_false, Bool.and_true, Bool.and_false, Bool.or_true, Bool.or_false, cond_true, cond_false, er7, er8, er9]
      clear er7 er8 er9
      clear H
      have H := hid hd
      clear hd
      go_wp2_with fail
      have cf52 : ∀ args w, (callFunc 52 args).run Try.prog w = .ok (.enter 52 args) w := fun args w => by kernel_rfl
      refine wp_region_hold [[], [], [], [2], [], [3, 4], [1, 5], [6], [7], [0, 8], [9], [10], [10], [10], [], [], [11, 14], [12, 15], [13]] [[], [], [], [], [], [], [], [], [], [9], [9], [9], [], [], [14], [15], [9, 14], [15], []] ([some 44, some 45, some 46, some 47, some 48, some 49, some 50, some 51, some 52, some 53, some 43, some 54, some 55, some 56, some 10, some 11, none, none, some 12] : List (Option Nat)) ([none, none, none, none, none, none, none, none, none, none, none, none, none, none, some 16, some 17, none, none, none] : List (Option Nat)) (
          (fun _ => .agg #[.slice bv fs.length dv]) ::
          (fun _ => .slice (some ⟨g, og, none⟩) len0 cap0) ::
          (fun _ => .int .i64 (N : Nat)) ::
          (fun _ => .int .i64 ((N : Int) - 1)) ::
          (fun _ => .int .i64 (j : Nat)) ::
          (fun _ => .int .i64 (n2 : Nat)) ::
          (fun _ => .pointer (some ⟨g, og + n2, none⟩)) ::
          (fun _ => .int .i64 q) ::
          (fun _ => .agg #[.int .i64 q, .int .i64 7, .int .u64 0, .int .u64 0]) ::
          (fun gs => .tuple #[.agg #[.slice (gs.getD 0 default).1 F2.length (gs.getD 0 default).2], .agg #[.int .i64 ha, .int .i64 jk, .int .u64 jx, .int .u64 jy], .bool false]) ::
          (fun gs => .tuple #[.agg #[.slice (gs.getD 0 default).1 F2.length (gs.getD 0 default).2], .agg #[.int .i64 ha, .int .i64 jk, .int .u64 jx, .int .u64 jy], .bool false]) ::
          (fun gs => .agg #[.slice (gs.getD 0 default).1 F2.length (gs.getD 0 default).2]) ::
          (fun _ => .agg #[.int .i64 ha, .int .i64 jk, .int .u64 jx, .int .u64 jy]) ::
          (fun _ => .bool false) ::
          (fun gs => .pointer (some ⟨(gs.getD 0 default).2, 0, none⟩)) ::
          (fun gs => .pointer (some ⟨(gs.getD 0 default).2, 0, none⟩)) ::
          (fun _ => undef) ::
          (fun _ => undef) ::
          (fun _ => .bool false) :: []) ((fun _ => []) :: (fun _ => []) :: (fun _ => []) :: (fun _ => []) :: (fun _ => []) :: (fun _ => []) :: (fun _ => []) :: (fun _ => []) :: (fun _ => []) :: (fun gs => [CaR (.slice (gs.getD 0 default).1 F2.length (gs.getD 0 default).2) F2]) :: (fun _ => []) :: (fun _ => []) :: (fun _ => []) :: (fun _ => []) :: (fun gs => [Blk (gs.getD 0 default).2 (.cells #[.slice none 0 0] 85 (0, 0))]) :: (fun gs => [Blk (gs.getD 0 default).2 (.cells #[.int .i64 0, .int .i64 0, .int .u64 0, .int .u64 0] 91 (0, 0))]) :: (fun _ => []) :: (fun _ => []) :: (fun _ => []) :: ([] : List (List Gh → List Res))) ((fun _ => []) :: (fun _ => []) :: (fun _ => []) :: (fun _ => []) :: (fun _ => []) :: (fun _ => []) :: (fun _ => []) :: (fun _ => []) :: (fun _ => []) :: (fun _ => []) :: (fun _ => []) :: (fun _ => []) :: (fun _ => []) :: (fun _ => []) :: (fun gs => [Blk (gs.getD 1 default).2 (.cells #[.slice (gs.getD 0 default).1 F2.length (gs.getD 0 default).2] 85 (0, 0))]) :: (fun gs => [Blk (gs.getD 0 default).2 (.cells #[.int .i64 ha, .int .i64 jk, .int .u64 jx, .int .u64 jy] 91 (0, 0))]) :: (fun _ => []) :: (fun _ => []) :: (fun _ => []) :: ([] : List (List Gh → List Res))) (by kernel_rfl) (by kernel_rfl) rfl (hold_lt (n := 171) (by decide)) H.out (hold_nil (fs := [16, 17]) (by decide) rfl ?_) (hold_fit (by decide)) ?_ ?_ (fun t => decide (10 ≤ t) && decide (t ≤ 12) || decide (43 ≤ t) && decide (t ≤ 56)) (by decide) ?_
      · intro s gs hs
        simp only [List.mem_cons, List.not_mem_nil, or_false] at hs
        rcases hs with rfl | rfl <;> rfl
      · repeat (refine StepAll.cons (by first | exact trivial | exact fun g => rfl) ?_)
        exact trivial
      ·
        refine StepAll.cons ?_ ?_
        · refine HoldStep.val (by decide) fun a wx γ hn hr Ss hH K hK => ?_
          have e4 : a.eval (.tmp 4) = .pointer (some ⟨W.heap.size + 1, 0, none⟩) := (hr 4 (by decide)).trans rfl
          have hB := Hd.rear hH
          have kB0 := (cell_of_heap (Hd.nthk 5 hB rfl) 0).trans (show _ = some (.slice bv fs.length dv) from rfl)
          exact hold_run (v := .agg #[.slice bv fs.length dv]) (by clear hn hr hK; generalize a.eval = ρ at *; simp [execOp, e4, kB0, go_sem]) rfl rfl hH hK
        refine StepAll.cons ?_ ?_
        · refine HoldStep.val (by decide) fun a wx γ hn hr Ss hH K hK => ?_
          have e0 : a.eval (.tmp 0) = .slice (some ⟨g, og, none⟩) len0 cap0 := (hr 0 (by decide)).trans rfl
          exact hold_run (v := .slice (some ⟨g, og, none⟩) len0 cap0) (by clear hn hr hK; generalize a.eval = ρ at *; simp [execOp, e0, go_sem]) rfl rfl hH hK
        refine StepAll.cons ?_ ?_
        · refine HoldStep.val (by decide) fun a wx γ hn hr Ss hH K hK => ?_
          have e5 : a.eval (.tmp 5) = .int .i64 (N : Nat) := (hr 5 (by decide)).trans rfl
          exact hold_run (v := .int .i64 (N : Nat)) (by clear hn hr hK; generalize a.eval = ρ at *; simp [execOp, e5, go_sem]) rfl rfl hH hK
        refine StepAll.cons ?_ ?_
        · refine HoldStep.val (by decide) fun a wx γ hn hr Ss hH K hK => ?_
          have ec := evc a
          have e46 : a.eval (.tmp 46) = .int .i64 (N : Nat) := hn 2 (by decide) 46 rfl
          exact hold_run (v := .int .i64 ((N : Int) - 1)) (by clear hn hr hK; generalize a.eval = ρ at *; simp [execOp, ec, e46, hs1, go_sem]) rfl rfl hH hK
        refine StepAll.cons ?_ ?_
        · refine HoldStep.val (by decide) fun a wx γ hn hr Ss hH K hK => ?_
          have e6 : a.eval (.tmp 6) = .int .i64 (j : Nat) := (hr 6 (by decide)).trans rfl
          exact hold_run (v := .int .i64 (j : Nat)) (by clear hn hr hK; generalize a.eval = ρ at *; simp [execOp, e6, go_sem]) rfl rfl hH hK
        refine StepAll.cons ?_ ?_
        · refine HoldStep.val (by decide) fun a wx γ hn hr Ss hH K hK => ?_
          have e47 : a.eval (.tmp 47) = .int .i64 ((N : Int) - 1) := hn 3 (by decide) 47 rfl
          have e48 : a.eval (.tmp 48) = .int .i64 (j : Nat) := hn 4 (by decide) 48 rfl
          exact hold_run (v := .int .i64 (n2 : Nat)) (by clear hn hr hK; generalize a.eval = ρ at *; simp [execOp, e47, e48, hs2, go_sem]) rfl rfl hH hK
        refine StepAll.cons ?_ ?_
        · refine HoldStep.val (by decide) fun a wx γ hn hr Ss hH K hK => ?_
          have e45 : a.eval (.tmp 45) = .slice (some ⟨g, og, none⟩) len0 cap0 := hn 1 (by decide) 45 rfl
          have e49 : a.eval (.tmp 49) = .int .i64 (n2 : Nat) := hn 5 (by decide) 49 rfl
          exact hold_run (v := .pointer (some ⟨g, og + n2, none⟩)) (by clear hn hr hK; generalize a.eval = ρ at *; simp [execOp, e45, e49, zn0, zn1, go_sem]) rfl rfl hH hK
        refine StepAll.cons ?_ ?_
        · refine HoldStep.val (by decide) fun a wx γ hn hr Ss hH K hK => ?_
          have e50 : a.eval (.tmp 50) = .pointer (some ⟨g, og + n2, none⟩) := hn 6 (by decide) 50 rfl
          have hB := Hd.rear hH
          have kx := bcl hB.below y0
          exact hold_run (v := .int .i64 q) (by clear hn hr hK; generalize a.eval = ρ at *; simp [execOp, e50, kx, go_sem]) rfl rfl hH hK
        refine StepAll.cons ?_ ?_
        · refine HoldStep.val (by decide) fun a wx γ hn hr Ss hH K hK => ?_
          have ec := evc a
          have e51 : a.eval (.tmp 51) = .int .i64 q := hn 7 (by decide) 51 rfl
          exact hold_run (v := .agg #[.int .i64 q, .int .i64 7, .int .u64 0, .int .u64 0]) (by clear hn hr hK; generalize a.eval = ρ at *; simp [execOp, ec, e51, go_sem]) rfl rfl hH hK
        refine StepAll.cons ?_ ?_
        · refine HoldStep.val (by decide) fun a wx γ hn hr Ss hH K hK => ?_
          have e44 : a.eval (.tmp 44) = .agg #[.slice bv fs.length dv] := hn 0 (by decide) 44 rfl
          have e52 : a.eval (.tmp 52) = .agg #[.int .i64 q, .int .i64 7, .int .u64 0, .int .u64 0] := hn 8 (by decide) 52 rfl
          have ef : a.eval (.func 52) = .func (.func 52) #[] #[] := rfl
          have hca := ((Hd.rear hH).front 4 rfl).ca
          exact hold_call (by clear hn hr hK hH; generalize a.eval = ρ at *; simp [execOp, e44, e52, cf52, ef, go_sem]) ((put16_h q 7 0 0 HF2.out HR.out.2.1 (by omega) hca).mono fun e w2 h => by obtain ⟨x, h1, h2⟩ := h; exact ⟨x, h1, h2 _⟩) hH hK
        refine StepAll.cons ?_ ?_
        · refine HoldStep.val (by decide) fun a wx γ hn hr Ss hH K hK => ?_
          have e53 : a.eval (.tmp 53) = .tuple #[.agg #[.slice (γ 9).1 F2.length (γ 9).2], .agg #[.int .i64 ha, .int .i64 jk, .int .u64 jx, .int .u64 jy], .bool false] := hn 9 (by decide) 53 rfl
          exact hold_run (v := .tuple #[.agg #[.slice (γ 9).1 F2.length (γ 9).2], .agg #[.int .i64 ha, .int .i64 jk, .int .u64 jx, .int .u64 jy], .bool false]) (by clear hn hr hK; generalize a.eval = ρ at *; simp [execOp, e53, go_sem]) rfl rfl hH hK
        refine StepAll.cons ?_ ?_
        · refine HoldStep.val (by decide) fun a wx γ hn hr Ss hH K hK => ?_
          have e43 : a.eval (.tmp 43) = .tuple #[.agg #[.slice (γ 9).1 F2.length (γ 9).2], .agg #[.int .i64 ha, .int .i64 jk, .int .u64 jx, .int .u64 jy], .bool false] := hn 10 (by decide) 43 rfl
          exact hold_run (v := .agg #[.slice (γ 9).1 F2.length (γ 9).2]) (by clear hn hr hK; generalize a.eval = ρ at *; simp [execOp, e43, go_sem]) rfl rfl hH hK
        refine StepAll.cons ?_ ?_
        · refine HoldStep.val (by decide) fun a wx γ hn hr Ss hH K hK => ?_
          have e43 : a.eval (.tmp 43) = .tuple #[.agg #[.slice (γ 9).1 F2.length (γ 9).2], .agg #[.int .i64 ha, .int .i64 jk, .int .u64 jx, .int .u64 jy], .bool false] := hn 10 (by decide) 43 rfl
          exact hold_run (v := .agg #[.int .i64 ha, .int .i64 jk, .int .u64 jx, .int .u64 jy]) (by clear hn hr hK; generalize a.eval = ρ at *; simp [execOp, e43, go_sem]) rfl rfl hH hK
        refine StepAll.cons ?_ ?_
        · refine HoldStep.val (by decide) fun a wx γ hn hr Ss hH K hK => ?_
          have e43 : a.eval (.tmp 43) = .tuple #[.agg #[.slice (γ 9).1 F2.length (γ 9).2], .agg #[.int .i64 ha, .int .i64 jk, .int .u64 jx, .int .u64 jy], .bool false] := hn 10 (by decide) 43 rfl
          exact hold_run (v := .bool false) (by clear hn hr hK; generalize a.eval = ρ at *; simp [execOp, e43, go_sem]) rfl rfl hH hK
        refine StepAll.cons ?_ ?_
        · refine HoldStep.val (by decide) fun a wx γ hn hr Ss hH K hK => ?_
          exact hold_new (obj := .cells #[.slice none 0 0] 85 (0, 0)) (v := .pointer (some ⟨wx.heap.size, 0, none⟩)) (by clear hn hr hK; generalize a.eval = ρ at *; simp [execOp, go_sem]) rfl rfl hH hK
        refine StepAll.cons ?_ ?_
        · refine HoldStep.val (by decide) fun a wx γ hn hr Ss hH K hK => ?_
          exact hold_new (obj := .cells #[.int .i64 0, .int .i64 0, .int .u64 0, .int .u64 0] 91 (0, 0)) (v := .pointer (some ⟨wx.heap.size, 0, none⟩)) (by clear hn hr hK; generalize a.eval = ρ at *; simp [execOp, go_sem]) rfl rfl hH hK
        refine StepAll.cons ?_ ?_
        · refine HoldStep.fil 14 (by decide) fun a wx γ hn hr Ss hH K hK => ?_
          have e10 : a.eval (.tmp 10) = .pointer (some ⟨(γ 14).2, 0, none⟩) := hn 14 (by decide) 10 rfl
          have e54 : a.eval (.tmp 54) = .agg #[.slice (γ 9).1 F2.length (γ 9).2] := hn 11 (by decide) 54 rfl
          have hH2 : Hd W wx (Blk (γ 14).2 (.cells #[.slice none 0 0] 85 (0, 0)) :: Ss) := hH
          have hk := hH2.blk
          have c0 := (cell_of_heap hk 0).trans (show _ = some (.slice none 0 0) from rfl)
          have cf := frozen_of_heap hk
          clear hk hH
          exact hold_fil (w' := (wx.setCell ⟨(γ 14).2, 0, none⟩ (.slice (γ 9).1 F2.length (γ 9).2))) (by clear hn hr hK hH2; generalize a.eval = ρ at *; simp [execOp, e10, e54, c0, cf, go_sem]) (show Hd W _ (Blk (γ 14).2 _ :: Ss) from (hH2.set 0 (.slice (γ 9).1 F2.length (γ 9).2))) hK
        refine StepAll.cons ?_ ?_
        · refine HoldStep.fil 15 (by decide) fun a wx γ hn hr Ss hH K hK => ?_
          have e11 : a.eval (.tmp 11) = .pointer (some ⟨(γ 15).2, 0, none⟩) := hn 15 (by decide) 11 rfl
          have e55 : a.eval (.tmp 55) = .agg #[.int .i64 ha, .int .i64 jk, .int .u64 jx, .int .u64 jy] := hn 12 (by decide) 55 rfl
          have hH2 : Hd W wx (Blk (γ 15).2 (.cells #[.int .i64 0, .int .i64 0, .int .u64 0, .int .u64 0] 91 (0, 0)) :: Ss) := hH
          have hk := hH2.blk
          have c0 := (cell_of_heap hk 0).trans (show _ = some (.int .i64 0) from rfl)
          have c1 := (cell_of_heap hk 1).trans (show _ = some (.int .i64 0) from rfl)
          have c2 := (cell_of_heap hk 2).trans (show _ = some (.int .u64 0) from rfl)
          have c3 := (cell_of_heap hk 3).trans (show _ = some (.int .u64 0) from rfl)
          have cf := frozen_of_heap hk
          clear hk hH
          exact hold_fil (w' := ((((wx.setCell ⟨(γ 15).2, 0, none⟩ (.int .i64 ha)).setCell ⟨(γ 15).2, 1, none⟩ (.int .i64 jk)).setCell ⟨(γ 15).2, 2, none⟩ (.int .u64 jx)).setCell ⟨(γ 15).2, 3, none⟩ (.int .u64 jy))) (by clear hn hr hK hH2; generalize a.eval = ρ at *; simp [execOp, e11, e55, c0, c1, c2, c3, cf, go_sem]) (show Hd W _ (Blk (γ 15).2 _ :: Ss) from ((((hH2.set 0 (.int .i64 ha)).set 1 (.int .i64 jk)).set 2 (.int .u64 jx)).set 3 (.int .u64 jy))) hK
        refine StepAll.cons ?_ ?_
        · refine HoldStep.val (by decide) fun a wx γ hn hr Ss hH K hK => ?_
          have e56 : a.eval (.tmp 56) = .bool false := hn 13 (by decide) 56 rfl
          exact hold_run (v := .bool false) (by clear hn hr hK; generalize a.eval = ρ at *; simp [execOp, e56, go_sem]) rfl rfl hH hK
        exact trivial
      intro f w9 g9 hv h9
      have er10 : f 10 = .pointer (some ⟨(g9 14).2, 0, none⟩) := hv 14 10 rfl
      have er11 : f 11 = .pointer (some ⟨(g9 15).2, 0, none⟩) := hv 15 11 rfl
      have er12 : f 12 = .bool false := hv 18 12 rfl
      have hd : Hd W w9 ([CaR (.slice (g9 9).1 F2.length (g9 9).2) F2, Blk (g9 14).2 (.cells #[.slice (g9 9).1 F2.length (g9 9).2] 85 (0, 0)), Blk (g9 15).2 (.cells #[.int .i64 ha, .int .i64 jk, .int .u64 jx, .int .u64 jy] 91 (0, 0))] ++ [CaR (.slice adD E2.length capD) E2, Blk (kd) (.cells #[.slice adD E2.length capD] 85 (0, 0)), Blk (kg) (.cells #[.int .i64 ga, .int .i64 gk, .int .u64 gx, .int .u64 gy] 91 (0, 0)), CaR (.slice av es.length cv) es, CaR (.slice bv fs.length dv) fs, Blk (W.heap.size + 1) (.cells #[.slice bv fs.length dv] 85 (0, 0)), Blk (W.heap.size) (.cells #[.slice av es.length cv] 85 (0, 0))]) := h9
      obtain ⟨⟨adE, capE⟩, hG9⟩ : ∃ x, g9 9 = x := ⟨_, rfl⟩
      obtain ⟨⟨_, ke⟩, hG14⟩ : ∃ x, g9 14 = x := ⟨_, rfl⟩
      obtain ⟨⟨_, kh2⟩, hG15⟩ : ∃ x, g9 15 = x := ⟨_, rfl⟩
      simp only [hG9, hG14, hG15, List.cons_append, List.nil_append] at hd er10 er11 er12
      clear hv h9 hG9 hG14 hG15 cf52
      clear g9
      simp only [patchG, Nat.reduceAdd, Nat.reduceLeDiff, decide_true, decide_false, Bool.and_true, Bool.and_false, Bool.or_true, Bool.or_false, cond_true, cond_false, er10, er11, er12]
      clear er10 er11 er12
      clear H
      have H := hid hd
      clear hd
      clear hs1 hs2 x0 y0 d1 d1' d1n
      have hk := Hd.nthk 4 H.out rfl
      have k0 := (cell_of_heap hk 0).trans (show _ = some (.slice adD E2.length capD) from rfl)
      have ks := (Array.getElem?_eq_some_iff.1 hk).1
      clear hk
      have hk := Hd.nthk 9 H.out rfl
      have aa0 := (cell_of_heap hk 0).trans (show _ = some (.slice av es.length cv) from rfl)
      have aas := (Array.getElem?_eq_some_iff.1 hk).1
      have aaf := frozen_of_heap hk
      clear hk
      have hk := Hd.nthk 1 H.out rfl
      have m0 := (cell_of_heap hk 0).trans (show _ = some (.slice adE F2.length capE) from rfl)
      have ms := (Array.getElem?_eq_some_iff.1 hk).1
      clear hk
      have hk := Hd.nthk 8 H.out rfl
      have b0 := (cell_of_heap hk 0).trans (show _ = some (.slice bv fs.length dv) from rfl)
      have bs := (Array.getElem?_eq_some_iff.1 hk).1
      have bf := frozen_of_heap hk
      clear hk
      have zae := blks_ne (((H.out.front 9 rfl).front 2 rfl))
      go_wp2_with fail
      go_roundw
      case rel => exact ⟨j + 1, .slice adD E2.length capD, .slice adE F2.length capE, E2, F2, by omega, by go_num, HR2, by omega, by omega, hid (Hd.dropEnd (Rs := [CaR (.slice adD E2.length capD) E2, CaR (.slice adE F2.length capE) F2, Blk (W.heap.size + 1) (.cells #[.slice adE F2.length capE] 85 (0, 0)), Blk W.heap.size (.cells #[.slice adD E2.length capD] 85 (0, 0))]) ((((((H.out.front 9 rfl).set 0 (.slice adD E2.length capD)).front 9 rfl).set 0 (.slice adE F2.length capE)).front 2 rfl).front 5 rfl))⟩
      case measure => simp [intOf]; omega
    · obtain rfl : j = N := by omega
      obtain ⟨hr1, hr2, hh1, hh2⟩ := HR.out
      obtain rfl : es = fs := rises_ext hr1 hr2 fun x => by rw [hh1 x, hh2 x]; simp
      have HR1 := hid hr1
      have HH := hid hh1
      clear HR hr1 hr2 hh1 hh2 hgo hfl
      have d1 : decide ((j : Int) < (j : Int)) = false := by simp
      have hk := Hd.nthk 3 H.out rfl
      have aa0 := (cell_of_heap hk 0).trans (show _ = some (.slice av es.length cv) from rfl)
      have aas := (Array.getElem?_eq_some_iff.1 hk).1
      clear hk
      have hk := Hd.nthk 2 H.out rfl
      have b0 := (cell_of_heap hk 0).trans (show _ = some (.slice bv es.length dv) from rfl)
      have bs := (Array.getElem?_eq_some_iff.1 hk).1
      clear hk
      go_wp2_with fail
      clear aa0 aas b0 bs d1
      go_loopw [13] (fun k wr => ∃ m : Nat, m ≤ es.length ∧ k = .int .i64 m ∧ Hid (Hd W wr [CaR (.slice av es.length cv) es, CaR (.slice bv es.length dv) es, Blk (W.heap.size + 1) (.cells #[.slice bv es.length dv] 85 (0, 0)), Blk (W.heap.size) (.cells #[.slice av es.length cv] 85 (0, 0))])) (fun k _ => es.length - (intOf k).toNat)
      case atStart => exact ⟨0, Nat.zero_le _, rfl, H⟩
      case round =>
        clear H
        obtain ⟨m, hm, rfl, H⟩ := hrel
        obtain ⟨wi, hwi⟩ : ∃ wi : World, wi = wr := ⟨_, rfl⟩
        rw [← hwi] at H ⊢
        clear hwi wr
        have zm0 : 0 ≤ (m : Int) := by omega
        by_cases hm2 : m < es.length
        · have dm : decide ((m : Int) < (es.length : Int)) = true := by simp; omega
          have dm' : decide (m < es.length) = true := by simp; omega
          have zm1 : (m : Int) < (es.length : Int) := by omega
          obtain ⟨⟨fa, fk, fx, fy⟩, hf⟩ : ∃ f, es[m]? = some f := ⟨es[m], List.getElem?_eq_getElem _⟩
          obtain ⟨ad3, cap3, heq, hat, -⟩ := (H.out.front 0 rfl).ca.ex
          simp only [Value.slice.injEq] at heq
          obtain ⟨heq, -, -⟩ := heq
          subst heq
          obtain ⟨g5, g5o, heq, hc⟩ := hat m _ hf
          subst heq
          have y0 := hc 0 _ rfl
          have y1 := hc 1 _ rfl
          have y2 := hc 2 _ rfl
          have y3 := hc 3 _ rfl
          rw [Nat.add_zero] at y0
          clear hc hat
          obtain ⟨ad3, cap3, heq, hat, -⟩ := (H.out.front 1 rfl).ca.ex
          simp only [Value.slice.injEq] at heq
          obtain ⟨heq, -, -⟩ := heq
          subst heq
          obtain ⟨g6, g6o, heq, hc⟩ := hat m _ hf
          subst heq
          have z0 := hc 0 _ rfl
          have z1 := hc 1 _ rfl
          have z2 := hc 2 _ rfl
          have z3 := hc 3 _ rfl
          rw [Nat.add_zero] at z0
          clear hc hat
          have hq := neq_E ⟨fa, fk, fx, fy⟩ ⟨fa, fk, fx, fy⟩
          rw [show decide ((⟨fa, fk, fx, fy⟩ : En) = ⟨fa, fk, fx, fy⟩) = true from decide_eq_true rfl] at hq
          dsimp only [Bool.not_true] at hq
          clear hf
          have hk := Hd.nthk 3 H.out rfl
          have aa0 := (cell_of_heap hk 0).trans (show _ = some (.slice (some ⟨g5, g5o, none⟩) es.length cv) from rfl)
          have aas := (Array.getElem?_eq_some_iff.1 hk).1
          clear hk
          have hk := Hd.nthk 2 H.out rfl
          have b0 := (cell_of_heap hk 0).trans (show _ = some (.slice (some ⟨g6, g6o, none⟩) es.length dv) from rfl)
          have bs := (Array.getElem?_eq_some_iff.1 hk).1
          clear hk
          go_wp2_with fail
          go_region
          go_wp2_with fail
          go_roundw
          case rel => exact ⟨m + 1, by omega, by go_num, hid H.out.dr⟩
          case measure => simp [intOf]; omega
        · have dm : decide ((m : Int) < (es.length : Int)) = false := by simp; omega
          have dm' : decide (m < es.length) = false := by simp; omega
          have hk := Hd.nthk 3 H.out rfl
          have aa0 := (cell_of_heap hk 0).trans (show _ = some (.slice av es.length cv) from rfl)
          have aas := (Array.getElem?_eq_some_iff.1 hk).1
          clear hk
          go_wp2_with fail
          clear aa0 aas dm dm' hm hm2 zm0
          have HL := hid (show Left es es (z0.take 0) from fun x => by simp)
          go_loopw [14] (fun k wr => ∃ (i : Nat) (v : Value) (fs : List En), i ≤ j ∧ k = .int .i64 i ∧ Hid (Rises fs) ∧ fs.length ≤ 4 ∧ Hid (Left fs es (z0.take i)) ∧ Hid (Hd W wr [CaR (.slice av es.length cv) es, CaR v fs, Blk (W.heap.size + 1) (.cells #[v] 85 (0, 0)), Blk W.heap.size (.cells #[.slice av es.length cv] 85 (0, 0))])) (fun k _ => j - (intOf k).toNat)
          case atStart => exact ⟨0, _, es, Nat.zero_le _, rfl, HR1, by omega, HL, H⟩
          case round =>
            clear H HL
            obtain ⟨i, v3, fs, hi, rfl, HRf, hf4, HL, H⟩ := hrel
            obtain ⟨wo3, hwo3⟩ : ∃ wi : World, wi = wr := ⟨_, rfl⟩
            rw [← hwo3] at H ⊢
            clear hwo3 wr
            obtain ⟨bv3, dv3, rfl⟩ := H.out.swap.ca_form
            obtain ⟨nb, hnb⟩ : ∃ n, fs.length = n := ⟨_, rfl⟩
            rw [hnb] at H hf4
            have HNB := hid hnb
            clear hnb
            have zi0 : 0 ≤ (i : Int) := by omega
            by_cases hi2 : i < j
            · have dm : decide ((i : Int) < (j : Int)) = true := by simp; omega
              have dm' : decide (i < j) = true := by simp; omega
              obtain ⟨k, hz⟩ : ∃ k, z0[i]? = some k := ⟨z0[i]'(by rw [← E0.out]; omega), List.getElem?_eq_getElem _⟩
              obtain ⟨kl, kh, g, og, rfl, x0⟩ := I0.out i k hz
              have zj0 : 0 ≤ (i : Int) := zi0
              have zj1 : (i : Int) < (len0 : Int) := by omega
              have HG := hid (has_get HR1.out HH.out (show k ∈ z0.take j from List.mem_of_getElem? (i := i) (by rw [List.getElem?_take, if_pos hi2]; exact hz)))
              obtain ⟨⟨⟨ya, yk, yx, yy⟩, was⟩, hgy⟩ : ∃ r, kGet fs k = r := ⟨_, rfl⟩
              obtain ⟨c3, hc3⟩ : ∃ c, kDrop fs k = c := ⟨_, rfl⟩
              obtain ⟨⟨⟨za, zk, zx, zy⟩, no⟩, hgz⟩ : ∃ r, kGet c3 k = r := ⟨_, rfl⟩
              obtain ⟨rfl, hrc, hlc, hwt, hwf⟩ := left_drop HRf.out HL.out (mem_take_succ hz) hgy hc3 hgz
              obtain ⟨nc, hnc⟩ : ∃ n, c3.length = n := ⟨_, rfl⟩
              rw [hnc, HNB.out] at hwt hwf
              have hc4 : nc ≤ 4 := by cases was <;> simp at hwt hwf <;> omega
              have HGY := hid hgy
              have HC3 := hid hc3
              have HGZ := hid hgz
              have HRC := hid hrc
              have HLC := hid hlc
              have HNC := hid hnc
              clear hz hgy hc3 hgz hrc hlc hnc
              go_wp2_with fail
              have cf55 : ∀ args w, (callFunc 55 args).run Try.prog w = .ok (.enter 55 args) w := fun args w => by kernel_rfl
              refine wp_region_hold [[], [], [], [1, 2], [3], [0, 4], [5], [6], [6], [], [7, 9], [8]] [[], [], [], [], [], [], [], [], [], [9], [9], []] ([some 94, some 95, some 96, some 97, some 98, some 99, some 93, some 100, some 101, some 15, none, some 16] : List (Option Nat)) ([none, none, none, none, none, none, none, none, none, some 10, none, none] : List (Option Nat)) (
                  (fun _ => .agg #[.slice av es.length cv]) ::
                  (fun _ => .slice (some ⟨g, og, none⟩) len0 cap0) ::
                  (fun _ => .int .i64 (i : Nat)) ::
                  (fun _ => .pointer (some ⟨g, og + i, none⟩)) ::
                  (fun _ => .int .i64 k) ::
                  (fun _ => .tuple #[.agg #[.int .i64 k, .int .i64 7, .int .u64 0, .int .u64 0], .bool true]) ::
                  (fun _ => .tuple #[.agg #[.int .i64 k, .int .i64 7, .int .u64 0, .int .u64 0], .bool true]) ::
                  (fun _ => .agg #[.int .i64 k, .int .i64 7, .int .u64 0, .int .u64 0]) ::
                  (fun _ => .bool true) ::
                  (fun gs => .pointer (some ⟨(gs.getD 0 default).2, 0, none⟩)) ::
                  (fun _ => undef) ::
                  (fun _ => .bool true) :: []) ((fun _ => []) :: (fun _ => []) :: (fun _ => []) :: (fun _ => []) :: (fun _ => []) :: (fun _ => []) :: (fun _ => []) :: (fun _ => []) :: (fun _ => []) :: (fun gs => [Blk (gs.getD 0 default).2 (.cells #[.int .i64 0, .int .i64 0, .int .u64 0, .int .u64 0] 91 (0, 0))]) :: (fun _ => []) :: (fun _ => []) :: ([] : List (List Gh → List Res))) ((fun _ => []) :: (fun _ => []) :: (fun _ => []) :: (fun _ => []) :: (fun _ => []) :: (fun _ => []) :: (fun _ => []) :: (fun _ => []) :: (fun _ => []) :: (fun gs => [Blk (gs.getD 0 default).2 (.cells #[.int .i64 k, .int .i64 7, .int .u64 0, .int .u64 0] 91 (0, 0))]) :: (fun _ => []) :: (fun _ => []) :: ([] : List (List Gh → List Res))) (by kernel_rfl) (by kernel_rfl) rfl (hold_lt (n := 171) (by decide)) H.out (hold_nil (fs := [10]) (by decide) rfl ?_) (hold_fit (by decide)) ?_ ?_ (fun t => decide (15 ≤ t) && decide (t ≤ 16) || decide (93 ≤ t) && decide (t ≤ 101)) (by decide) ?_
              · intro s gs hs
                simp only [List.mem_cons, List.not_mem_nil, or_false] at hs
                subst hs; rfl
              · repeat (refine StepAll.cons (by first | exact trivial | exact fun g => rfl) ?_)
                exact trivial
              ·
                refine StepAll.cons ?_ ?_
                · refine HoldStep.val (by decide) fun a wx γ hn hr Ss hH K hK => ?_
                  have e3 : a.eval (.tmp 3) = .pointer (some ⟨W.heap.size, 0, none⟩) := (hr 3 (by decide)).trans rfl
                  have hB := Hd.rear hH
                  have kA0 := (cell_of_heap (Hd.nthk 3 hB rfl) 0).trans (show _ = some (.slice av es.length cv) from rfl)
                  exact hold_run (v := .agg #[.slice av es.length cv]) (by clear hn hr hK; generalize a.eval = ρ at *; simp [execOp, e3, kA0, go_sem]) rfl rfl hH hK
                refine StepAll.cons ?_ ?_
                · refine HoldStep.val (by decide) fun a wx γ hn hr Ss hH K hK => ?_
                  have e0 : a.eval (.tmp 0) = .slice (some ⟨g, og, none⟩) len0 cap0 := (hr 0 (by decide)).trans rfl
                  exact hold_run (v := .slice (some ⟨g, og, none⟩) len0 cap0) (by clear hn hr hK; generalize a.eval = ρ at *; simp [execOp, e0, go_sem]) rfl rfl hH hK
                refine StepAll.cons ?_ ?_
                · refine HoldStep.val (by decide) fun a wx γ hn hr Ss hH K hK => ?_
                  have e14 : a.eval (.tmp 14) = .int .i64 (i : Nat) := (hr 14 (by decide)).trans rfl
                  exact hold_run (v := .int .i64 (i : Nat)) (by clear hn hr hK; generalize a.eval = ρ at *; simp [execOp, e14, go_sem]) rfl rfl hH hK
                refine StepAll.cons ?_ ?_
                · refine HoldStep.val (by decide) fun a wx γ hn hr Ss hH K hK => ?_
                  have e95 : a.eval (.tmp 95) = .slice (some ⟨g, og, none⟩) len0 cap0 := hn 1 (by decide) 95 rfl
                  have e96 : a.eval (.tmp 96) = .int .i64 (i : Nat) := hn 2 (by decide) 96 rfl
                  exact hold_run (v := .pointer (some ⟨g, og + i, none⟩)) (by clear hn hr hK; generalize a.eval = ρ at *; simp [execOp, e95, e96, zj0, zj1, go_sem]) rfl rfl hH hK
                refine StepAll.cons ?_ ?_
                · refine HoldStep.val (by decide) fun a wx γ hn hr Ss hH K hK => ?_
                  have e97 : a.eval (.tmp 97) = .pointer (some ⟨g, og + i, none⟩) := hn 3 (by decide) 97 rfl
                  have hB := Hd.rear hH
                  have kx := bcl hB.below x0
                  exact hold_run (v := .int .i64 k) (by clear hn hr hK; generalize a.eval = ρ at *; simp [execOp, e97, kx, go_sem]) rfl rfl hH hK
                refine StepAll.cons ?_ ?_
                · refine HoldStep.val (by decide) fun a wx γ hn hr Ss hH K hK => ?_
                  have e94 : a.eval (.tmp 94) = .agg #[.slice av es.length cv] := hn 0 (by decide) 94 rfl
                  have e98 : a.eval (.tmp 98) = .int .i64 k := hn 4 (by decide) 98 rfl
                  have ef : a.eval (.func 55) = .func (.func 55) #[] #[] := rfl
                  have hca := ((Hd.rear hH).front 0 rfl).ca
                  exact hold_call (by clear hn hr hK hH; generalize a.eval = ρ at *; simp [execOp, e94, e98, cf55, ef, go_sem]) ((get16_h k HG.out HR1.out (by omega) hca).mono fun e w2 h => by obtain ⟨x, h1, h2⟩ := h; exact ⟨x, h1, h2 _⟩) hH hK
                refine StepAll.cons ?_ ?_
                · refine HoldStep.val (by decide) fun a wx γ hn hr Ss hH K hK => ?_
                  have e99 : a.eval (.tmp 99) = .tuple #[.agg #[.int .i64 k, .int .i64 7, .int .u64 0, .int .u64 0], .bool true] := hn 5 (by decide) 99 rfl
                  exact hold_run (v := .tuple #[.agg #[.int .i64 k, .int .i64 7, .int .u64 0, .int .u64 0], .bool true]) (by clear hn hr hK; generalize a.eval = ρ at *; simp [execOp, e99, go_sem]) rfl rfl hH hK
                refine StepAll.cons ?_ ?_
                · refine HoldStep.val (by decide) fun a wx γ hn hr Ss hH K hK => ?_
                  have e93 : a.eval (.tmp 93) = .tuple #[.agg #[.int .i64 k, .int .i64 7, .int .u64 0, .int .u64 0], .bool true] := hn 6 (by decide) 93 rfl
                  exact hold_run (v := .agg #[.int .i64 k, .int .i64 7, .int .u64 0, .int .u64 0]) (by clear hn hr hK; generalize a.eval = ρ at *; simp [execOp, e93, go_sem]) rfl rfl hH hK
                refine StepAll.cons ?_ ?_
                · refine HoldStep.val (by decide) fun a wx γ hn hr Ss hH K hK => ?_
                  have e93 : a.eval (.tmp 93) = .tuple #[.agg #[.int .i64 k, .int .i64 7, .int .u64 0, .int .u64 0], .bool true] := hn 6 (by decide) 93 rfl
                  exact hold_run (v := .bool true) (by clear hn hr hK; generalize a.eval = ρ at *; simp [execOp, e93, go_sem]) rfl rfl hH hK
                refine StepAll.cons ?_ ?_
                · refine HoldStep.val (by decide) fun a wx γ hn hr Ss hH K hK => ?_
                  exact hold_new (obj := .cells #[.int .i64 0, .int .i64 0, .int .u64 0, .int .u64 0] 91 (0, 0)) (v := .pointer (some ⟨wx.heap.size, 0, none⟩)) (by clear hn hr hK; generalize a.eval = ρ at *; simp [execOp, go_sem]) rfl rfl hH hK
                refine StepAll.cons ?_ ?_
                · refine HoldStep.fil 9 (by decide) fun a wx γ hn hr Ss hH K hK => ?_
                  have e15 : a.eval (.tmp 15) = .pointer (some ⟨(γ 9).2, 0, none⟩) := hn 9 (by decide) 15 rfl
                  have e100 : a.eval (.tmp 100) = .agg #[.int .i64 k, .int .i64 7, .int .u64 0, .int .u64 0] := hn 7 (by decide) 100 rfl
                  have hH2 : Hd W wx (Blk (γ 9).2 (.cells #[.int .i64 0, .int .i64 0, .int .u64 0, .int .u64 0] 91 (0, 0)) :: Ss) := hH
                  have hk := hH2.blk
                  have c0 := (cell_of_heap hk 0).trans (show _ = some (.int .i64 0) from rfl)
                  have c1 := (cell_of_heap hk 1).trans (show _ = some (.int .i64 0) from rfl)
                  have c2 := (cell_of_heap hk 2).trans (show _ = some (.int .u64 0) from rfl)
                  have c3 := (cell_of_heap hk 3).trans (show _ = some (.int .u64 0) from rfl)
                  have cf := frozen_of_heap hk
                  clear hk hH
                  exact hold_fil (w' := ((((wx.setCell ⟨(γ 9).2, 0, none⟩ (.int .i64 k)).setCell ⟨(γ 9).2, 1, none⟩ (.int .i64 7)).setCell ⟨(γ 9).2, 2, none⟩ (.int .u64 0)).setCell ⟨(γ 9).2, 3, none⟩ (.int .u64 0))) (by clear hn hr hK hH2; generalize a.eval = ρ at *; simp [execOp, e15, e100, c0, c1, c2, c3, cf, go_sem]) (show Hd W _ (Blk (γ 9).2 _ :: Ss) from ((((hH2.set 0 (.int .i64 k)).set 1 (.int .i64 7)).set 2 (.int .u64 0)).set 3 (.int .u64 0))) hK
                refine StepAll.cons ?_ ?_
                · refine HoldStep.val (by decide) fun a wx γ hn hr Ss hH K hK => ?_
                  have e101 : a.eval (.tmp 101) = .bool true := hn 8 (by decide) 101 rfl
                  exact hold_run (v := .bool true) (by clear hn hr hK; generalize a.eval = ρ at *; simp [execOp, e101, go_sem]) rfl rfl hH hK
                exact trivial
              intro f w9 g9 hv h9
              have er15 : f 15 = .pointer (some ⟨(g9 9).2, 0, none⟩) := hv 9 15 rfl
              have er16 : f 16 = .bool true := hv 11 16 rfl
              have hd : Hd W w9 ([Blk (g9 9).2 (.cells #[.int .i64 k, .int .i64 7, .int .u64 0, .int .u64 0] 91 (0, 0))] ++ [CaR (.slice av es.length cv) es, CaR (.slice bv3 nb dv3) fs, Blk (W.heap.size + 1) (.cells #[.slice bv3 nb dv3] 85 (0, 0)), Blk (W.heap.size) (.cells #[.slice av es.length cv] 85 (0, 0))]) := h9
              obtain ⟨⟨_, k1⟩, hG9⟩ : ∃ x, g9 9 = x := ⟨_, rfl⟩
              simp only [hG9, List.cons_append, List.nil_append] at hd er15 er16
              clear hv h9 hG9 cf55
              clear g9
              simp only [patchG, Nat.reduceAdd, Nat.reduceLeDiff, decide_true, decide_false, Bool.and_true, Bool.and_false, Bool.or_true, Bool.or_false, cond_true, cond_false, er15, er16]
              clear er15 er16
              clear H
              have H := hid hd
              clear hd
              go_wp2_with fail
              have cf55 : ∀ args w, (callFunc 55 args).run Try.prog w = .ok (.enter 55 args) w := fun args w => by kernel_rfl
              refine wp_region_hold [[], [], [], [1, 2], [3], [0, 4], [5], [6], [6], [], [7, 9], [8]] [[], [], [], [], [], [], [], [], [], [9], [9], []] ([some 103, some 104, some 105, some 106, some 107, some 108, some 102, some 109, some 110, some 17, none, some 18] : List (Option Nat)) ([none, none, none, none, none, none, none, none, none, some 10, none, none] : List (Option Nat)) (
                  (fun _ => .agg #[.slice bv3 nb dv3]) ::
                  (fun _ => .slice (some ⟨g, og, none⟩) len0 cap0) ::
                  (fun _ => .int .i64 (i : Nat)) ::
                  (fun _ => .pointer (some ⟨g, og + i, none⟩)) ::
                  (fun _ => .int .i64 k) ::
                  (fun _ => .tuple #[.agg #[.int .i64 ya, .int .i64 yk, .int .u64 yx, .int .u64 yy], .bool was]) ::
                  (fun _ => .tuple #[.agg #[.int .i64 ya, .int .i64 yk, .int .u64 yx, .int .u64 yy], .bool was]) ::
                  (fun _ => .agg #[.int .i64 ya, .int .i64 yk, .int .u64 yx, .int .u64 yy]) ::
                  (fun _ => .bool was) ::
                  (fun gs => .pointer (some ⟨(gs.getD 0 default).2, 0, none⟩)) ::
                  (fun _ => undef) ::
                  (fun _ => .bool was) :: []) ((fun _ => []) :: (fun _ => []) :: (fun _ => []) :: (fun _ => []) :: (fun _ => []) :: (fun _ => []) :: (fun _ => []) :: (fun _ => []) :: (fun _ => []) :: (fun gs => [Blk (gs.getD 0 default).2 (.cells #[.int .i64 0, .int .i64 0, .int .u64 0, .int .u64 0] 91 (0, 0))]) :: (fun _ => []) :: (fun _ => []) :: ([] : List (List Gh → List Res))) ((fun _ => []) :: (fun _ => []) :: (fun _ => []) :: (fun _ => []) :: (fun _ => []) :: (fun _ => []) :: (fun _ => []) :: (fun _ => []) :: (fun _ => []) :: (fun gs => [Blk (gs.getD 0 default).2 (.cells #[.int .i64 ya, .int .i64 yk, .int .u64 yx, .int .u64 yy] 91 (0, 0))]) :: (fun _ => []) :: (fun _ => []) :: ([] : List (List Gh → List Res))) (by kernel_rfl) (by kernel_rfl) rfl (hold_lt (n := 171) (by decide)) H.out (hold_nil (fs := [10]) (by decide) rfl ?_) (hold_fit (by decide)) ?_ ?_ (fun t => decide (17 ≤ t) && decide (t ≤ 18) || decide (102 ≤ t) && decide (t ≤ 110)) (by decide) ?_
              · intro s gs hs
                simp only [List.mem_cons, List.not_mem_nil, or_false] at hs
                subst hs; rfl
              · repeat (refine StepAll.cons (by first | exact trivial | exact fun g => rfl) ?_)
                exact trivial
              ·
                refine StepAll.cons ?_ ?_
                · refine HoldStep.val (by decide) fun a wx γ hn hr Ss hH K hK => ?_
                  have e4 : a.eval (.tmp 4) = .pointer (some ⟨W.heap.size + 1, 0, none⟩) := (hr 4 (by decide)).trans rfl
                  have hB := Hd.rear hH
                  have kB0 := (cell_of_heap (Hd.nthk 3 hB rfl) 0).trans (show _ = some (.slice bv3 nb dv3) from rfl)
                  exact hold_run (v := .agg #[.slice bv3 nb dv3]) (by clear hn hr hK; generalize a.eval = ρ at *; simp [execOp, e4, kB0, go_sem]) rfl rfl hH hK
                refine StepAll.cons ?_ ?_
                · refine HoldStep.val (by decide) fun a wx γ hn hr Ss hH K hK => ?_
                  have e0 : a.eval (.tmp 0) = .slice (some ⟨g, og, none⟩) len0 cap0 := (hr 0 (by decide)).trans rfl
                  exact hold_run (v := .slice (some ⟨g, og, none⟩) len0 cap0) (by clear hn hr hK; generalize a.eval = ρ at *; simp [execOp, e0, go_sem]) rfl rfl hH hK
                refine StepAll.cons ?_ ?_
                · refine HoldStep.val (by decide) fun a wx γ hn hr Ss hH K hK => ?_
                  have e14 : a.eval (.tmp 14) = .int .i64 (i : Nat) := (hr 14 (by decide)).trans rfl
                  exact hold_run (v := .int .i64 (i : Nat)) (by clear hn hr hK; generalize a.eval = ρ at *; simp [execOp, e14, go_sem]) rfl rfl hH hK
                refine StepAll.cons ?_ ?_
                · refine HoldStep.val (by decide) fun a wx γ hn hr Ss hH K hK => ?_
                  have e104 : a.eval (.tmp 104) = .slice (some ⟨g, og, none⟩) len0 cap0 := hn 1 (by decide) 104 rfl
                  have e105 : a.eval (.tmp 105) = .int .i64 (i : Nat) := hn 2 (by decide) 105 rfl
                  exact hold_run (v := .pointer (some ⟨g, og + i, none⟩)) (by clear hn hr hK; generalize a.eval = ρ at *; simp [execOp, e104, e105, zj0, zj1, go_sem]) rfl rfl hH hK
                refine StepAll.cons ?_ ?_
                · refine HoldStep.val (by decide) fun a wx γ hn hr Ss hH K hK => ?_
                  have e106 : a.eval (.tmp 106) = .pointer (some ⟨g, og + i, none⟩) := hn 3 (by decide) 106 rfl
                  have hB := Hd.rear hH
                  have kx := bcl hB.below x0
                  exact hold_run (v := .int .i64 k) (by clear hn hr hK; generalize a.eval = ρ at *; simp [execOp, e106, kx, go_sem]) rfl rfl hH hK
                refine StepAll.cons ?_ ?_
                · refine HoldStep.val (by decide) fun a wx γ hn hr Ss hH K hK => ?_
                  have e103 : a.eval (.tmp 103) = .agg #[.slice bv3 nb dv3] := hn 0 (by decide) 103 rfl
                  have e107 : a.eval (.tmp 107) = .int .i64 k := hn 4 (by decide) 107 rfl
                  have ef : a.eval (.func 55) = .func (.func 55) #[] #[] := rfl
                  have hca := ((Hd.rear hH).front 2 rfl).ca
                  exact hold_call (by clear hn hr hK hH; generalize a.eval = ρ at *; simp [execOp, e103, e107, cf55, ef, go_sem]) ((get16_h k HGY.out HRf.out (by have := HNB.out; omega) hca).mono fun e w2 h => by obtain ⟨x, h1, h2⟩ := h; exact ⟨x, h1, h2 _⟩) hH hK
                refine StepAll.cons ?_ ?_
                · refine HoldStep.val (by decide) fun a wx γ hn hr Ss hH K hK => ?_
                  have e108 : a.eval (.tmp 108) = .tuple #[.agg #[.int .i64 ya, .int .i64 yk, .int .u64 yx, .int .u64 yy], .bool was] := hn 5 (by decide) 108 rfl
                  exact hold_run (v := .tuple #[.agg #[.int .i64 ya, .int .i64 yk, .int .u64 yx, .int .u64 yy], .bool was]) (by clear hn hr hK; generalize a.eval = ρ at *; simp [execOp, e108, go_sem]) rfl rfl hH hK
                refine StepAll.cons ?_ ?_
                · refine HoldStep.val (by decide) fun a wx γ hn hr Ss hH K hK => ?_
                  have e102 : a.eval (.tmp 102) = .tuple #[.agg #[.int .i64 ya, .int .i64 yk, .int .u64 yx, .int .u64 yy], .bool was] := hn 6 (by decide) 102 rfl
                  exact hold_run (v := .agg #[.int .i64 ya, .int .i64 yk, .int .u64 yx, .int .u64 yy]) (by clear hn hr hK; generalize a.eval = ρ at *; simp [execOp, e102, go_sem]) rfl rfl hH hK
                refine StepAll.cons ?_ ?_
                · refine HoldStep.val (by decide) fun a wx γ hn hr Ss hH K hK => ?_
                  have e102 : a.eval (.tmp 102) = .tuple #[.agg #[.int .i64 ya, .int .i64 yk, .int .u64 yx, .int .u64 yy], .bool was] := hn 6 (by decide) 102 rfl
                  exact hold_run (v := .bool was) (by clear hn hr hK; generalize a.eval = ρ at *; simp [execOp, e102, go_sem]) rfl rfl hH hK
                refine StepAll.cons ?_ ?_
                · refine HoldStep.val (by decide) fun a wx γ hn hr Ss hH K hK => ?_
                  exact hold_new (obj := .cells #[.int .i64 0, .int .i64 0, .int .u64 0, .int .u64 0] 91 (0, 0)) (v := .pointer (some ⟨wx.heap.size, 0, none⟩)) (by clear hn hr hK; generalize a.eval = ρ at *; simp [execOp, go_sem]) rfl rfl hH hK
                refine StepAll.cons ?_ ?_
                · refine HoldStep.fil 9 (by decide) fun a wx γ hn hr Ss hH K hK => ?_
                  have e17 : a.eval (.tmp 17) = .pointer (some ⟨(γ 9).2, 0, none⟩) := hn 9 (by decide) 17 rfl
                  have e109 : a.eval (.tmp 109) = .agg #[.int .i64 ya, .int .i64 yk, .int .u64 yx, .int .u64 yy] := hn 7 (by decide) 109 rfl
                  have hH2 : Hd W wx (Blk (γ 9).2 (.cells #[.int .i64 0, .int .i64 0, .int .u64 0, .int .u64 0] 91 (0, 0)) :: Ss) := hH
                  have hk := hH2.blk
                  have c0 := (cell_of_heap hk 0).trans (show _ = some (.int .i64 0) from rfl)
                  have c1 := (cell_of_heap hk 1).trans (show _ = some (.int .i64 0) from rfl)
                  have c2 := (cell_of_heap hk 2).trans (show _ = some (.int .u64 0) from rfl)
                  have c3 := (cell_of_heap hk 3).trans (show _ = some (.int .u64 0) from rfl)
                  have cf := frozen_of_heap hk
                  clear hk hH
                  exact hold_fil (w' := ((((wx.setCell ⟨(γ 9).2, 0, none⟩ (.int .i64 ya)).setCell ⟨(γ 9).2, 1, none⟩ (.int .i64 yk)).setCell ⟨(γ 9).2, 2, none⟩ (.int .u64 yx)).setCell ⟨(γ 9).2, 3, none⟩ (.int .u64 yy))) (by clear hn hr hK hH2; generalize a.eval = ρ at *; simp [execOp, e17, e109, c0, c1, c2, c3, cf, go_sem]) (show Hd W _ (Blk (γ 9).2 _ :: Ss) from ((((hH2.set 0 (.int .i64 ya)).set 1 (.int .i64 yk)).set 2 (.int .u64 yx)).set 3 (.int .u64 yy))) hK
                refine StepAll.cons ?_ ?_
                · refine HoldStep.val (by decide) fun a wx γ hn hr Ss hH K hK => ?_
                  have e110 : a.eval (.tmp 110) = .bool was := hn 8 (by decide) 110 rfl
                  exact hold_run (v := .bool was) (by clear hn hr hK; generalize a.eval = ρ at *; simp [execOp, e110, go_sem]) rfl rfl hH hK
                exact trivial
              intro f w9 g9 hv h9
              have er17 : f 17 = .pointer (some ⟨(g9 9).2, 0, none⟩) := hv 9 17 rfl
              have er18 : f 18 = .bool was := hv 11 18 rfl
              have hd : Hd W w9 ([Blk (g9 9).2 (.cells #[.int .i64 ya, .int .i64 yk, .int .u64 yx, .int .u64 yy] 91 (0, 0))] ++ [Blk (k1) (.cells #[.int .i64 k, .int .i64 7, .int .u64 0, .int .u64 0] 91 (0, 0)), CaR (.slice av es.length cv) es, CaR (.slice bv3 nb dv3) fs, Blk (W.heap.size + 1) (.cells #[.slice bv3 nb dv3] 85 (0, 0)), Blk (W.heap.size) (.cells #[.slice av es.length cv] 85 (0, 0))]) := h9
              obtain ⟨⟨_, k2⟩, hG9⟩ : ∃ x, g9 9 = x := ⟨_, rfl⟩
              simp only [hG9, List.cons_append, List.nil_append] at hd er17 er18
              clear hv h9 hG9 cf55
              clear g9
              simp only [patchG, Nat.reduceAdd, Nat.reduceLeDiff, decide_true, decide_false, Bool.and_true, Bool.and_false, Bool.or_true, Bool.or_false, cond_true, cond_false, er17, er18]
              clear er17 er18
              clear H
              have H := hid hd
              clear hd
              go_wp2_with fail
              have cf50 : ∀ args w, (callFunc 50 args).run Try.prog w = .ok (.enter 50 args) w := fun args w => by kernel_rfl
              refine wp_region_hold [[], [], [], [1, 2], [3], [0, 4], [], [5, 6]] [[], [], [], [], [], [5], [6], [5, 6]] ([some 111, some 112, some 113, some 114, some 115, some 116, some 19, none] : List (Option Nat)) ([none, none, none, none, none, none, some 7, none] : List (Option Nat)) (
                  (fun _ => .agg #[.slice bv3 nb dv3]) ::
                  (fun _ => .slice (some ⟨g, og, none⟩) len0 cap0) ::
                  (fun _ => .int .i64 (i : Nat)) ::
                  (fun _ => .pointer (some ⟨g, og + i, none⟩)) ::
                  (fun _ => .int .i64 k) ::
                  (fun gs => .agg #[.slice (gs.getD 0 default).1 c3.length (gs.getD 0 default).2]) ::
                  (fun gs => .pointer (some ⟨(gs.getD 0 default).2, 0, none⟩)) ::
                  (fun _ => undef) :: []) ((fun _ => []) :: (fun _ => []) :: (fun _ => []) :: (fun _ => []) :: (fun _ => []) :: (fun gs => [CaR (.slice (gs.getD 0 default).1 c3.length (gs.getD 0 default).2) c3]) :: (fun gs => [Blk (gs.getD 0 default).2 (.cells #[.slice none 0 0] 85 (0, 0))]) :: (fun _ => []) :: ([] : List (List Gh → List Res))) ((fun _ => []) :: (fun _ => []) :: (fun _ => []) :: (fun _ => []) :: (fun _ => []) :: (fun _ => []) :: (fun gs => [Blk (gs.getD 1 default).2 (.cells #[.slice (gs.getD 0 default).1 c3.length (gs.getD 0 default).2] 85 (0, 0))]) :: (fun _ => []) :: ([] : List (List Gh → List Res))) (by kernel_rfl) (by kernel_rfl) rfl (hold_lt (n := 171) (by decide)) H.out (hold_nil (fs := [7]) (by decide) rfl ?_) (hold_fit (by decide)) ?_ ?_ (fun t => t == 19 || decide (111 ≤ t) && decide (t ≤ 116)) (by decide) ?_
              · intro s gs hs
                simp only [List.mem_cons, List.not_mem_nil, or_false] at hs
                subst hs; rfl
              · repeat (refine StepAll.cons (by first | exact trivial | exact fun g => rfl) ?_)
                exact trivial
              ·
                refine StepAll.cons ?_ ?_
                · refine HoldStep.val (by decide) fun a wx γ hn hr Ss hH K hK => ?_
                  have e4 : a.eval (.tmp 4) = .pointer (some ⟨W.heap.size + 1, 0, none⟩) := (hr 4 (by decide)).trans rfl
                  have hB := Hd.rear hH
                  have kB0 := (cell_of_heap (Hd.nthk 4 hB rfl) 0).trans (show _ = some (.slice bv3 nb dv3) from rfl)
                  exact hold_run (v := .agg #[.slice bv3 nb dv3]) (by clear hn hr hK; generalize a.eval = ρ at *; simp [execOp, e4, kB0, go_sem]) rfl rfl hH hK
                refine StepAll.cons ?_ ?_
                · refine HoldStep.val (by decide) fun a wx γ hn hr Ss hH K hK => ?_
                  have e0 : a.eval (.tmp 0) = .slice (some ⟨g, og, none⟩) len0 cap0 := (hr 0 (by decide)).trans rfl
                  exact hold_run (v := .slice (some ⟨g, og, none⟩) len0 cap0) (by clear hn hr hK; generalize a.eval = ρ at *; simp [execOp, e0, go_sem]) rfl rfl hH hK
                refine StepAll.cons ?_ ?_
                · refine HoldStep.val (by decide) fun a wx γ hn hr Ss hH K hK => ?_
                  have e14 : a.eval (.tmp 14) = .int .i64 (i : Nat) := (hr 14 (by decide)).trans rfl
                  exact hold_run (v := .int .i64 (i : Nat)) (by clear hn hr hK; generalize a.eval = ρ at *; simp [execOp, e14, go_sem]) rfl rfl hH hK
                refine StepAll.cons ?_ ?_
                · refine HoldStep.val (by decide) fun a wx γ hn hr Ss hH K hK => ?_
                  have e112 : a.eval (.tmp 112) = .slice (some ⟨g, og, none⟩) len0 cap0 := hn 1 (by decide) 112 rfl
                  have e113 : a.eval (.tmp 113) = .int .i64 (i : Nat) := hn 2 (by decide) 113 rfl
                  exact hold_run (v := .pointer (some ⟨g, og + i, none⟩)) (by clear hn hr hK; generalize a.eval = ρ at *; simp [execOp, e112, e113, zj0, zj1, go_sem]) rfl rfl hH hK
                refine StepAll.cons ?_ ?_
                · refine HoldStep.val (by decide) fun a wx γ hn hr Ss hH K hK => ?_
                  have e114 : a.eval (.tmp 114) = .pointer (some ⟨g, og + i, none⟩) := hn 3 (by decide) 114 rfl
                  have hB := Hd.rear hH
                  have kx := bcl hB.below x0
                  exact hold_run (v := .int .i64 k) (by clear hn hr hK; generalize a.eval = ρ at *; simp [execOp, e114, kx, go_sem]) rfl rfl hH hK
                refine StepAll.cons ?_ ?_
                · refine HoldStep.val (by decide) fun a wx γ hn hr Ss hH K hK => ?_
                  have e111 : a.eval (.tmp 111) = .agg #[.slice bv3 nb dv3] := hn 0 (by decide) 111 rfl
                  have e115 : a.eval (.tmp 115) = .int .i64 k := hn 4 (by decide) 115 rfl
                  have ef : a.eval (.func 50) = .func (.func 50) #[] #[] := rfl
                  have hca := ((Hd.rear hH).front 3 rfl).ca
                  exact hold_call (by clear hn hr hK hH; generalize a.eval = ρ at *; simp [execOp, e111, e115, cf50, ef, go_sem]) ((drop16_h k HC3.out HRf.out (by have := HNB.out; omega) hca).mono fun e w2 h => by obtain ⟨x, h1, h2⟩ := h; exact ⟨x, h1, h2 _⟩) hH hK
                refine StepAll.cons ?_ ?_
                · refine HoldStep.val (by decide) fun a wx γ hn hr Ss hH K hK => ?_
                  exact hold_new (obj := .cells #[.slice none 0 0] 85 (0, 0)) (v := .pointer (some ⟨wx.heap.size, 0, none⟩)) (by clear hn hr hK; generalize a.eval = ρ at *; simp [execOp, go_sem]) rfl rfl hH hK
                refine StepAll.cons ?_ ?_
                · refine HoldStep.fil 6 (by decide) fun a wx γ hn hr Ss hH K hK => ?_
                  have e19 : a.eval (.tmp 19) = .pointer (some ⟨(γ 6).2, 0, none⟩) := hn 6 (by decide) 19 rfl
                  have e116 : a.eval (.tmp 116) = .agg #[.slice (γ 5).1 c3.length (γ 5).2] := hn 5 (by decide) 116 rfl
                  have hH2 : Hd W wx (Blk (γ 6).2 (.cells #[.slice none 0 0] 85 (0, 0)) :: Ss) := hH
                  have hk := hH2.blk
                  have c0 := (cell_of_heap hk 0).trans (show _ = some (.slice none 0 0) from rfl)
                  have cf := frozen_of_heap hk
                  clear hk hH
                  exact hold_fil (w' := (wx.setCell ⟨(γ 6).2, 0, none⟩ (.slice (γ 5).1 c3.length (γ 5).2))) (by clear hn hr hK hH2; generalize a.eval = ρ at *; simp [execOp, e19, e116, c0, cf, go_sem]) (show Hd W _ (Blk (γ 6).2 _ :: Ss) from (hH2.set 0 (.slice (γ 5).1 c3.length (γ 5).2))) hK
                exact trivial
              intro f w9 g9 hv h9
              have er19 : f 19 = .pointer (some ⟨(g9 6).2, 0, none⟩) := hv 6 19 rfl
              have hd : Hd W w9 ([CaR (.slice (g9 5).1 c3.length (g9 5).2) c3, Blk (g9 6).2 (.cells #[.slice (g9 5).1 c3.length (g9 5).2] 85 (0, 0))] ++ [Blk (k2) (.cells #[.int .i64 ya, .int .i64 yk, .int .u64 yx, .int .u64 yy] 91 (0, 0)), Blk (k1) (.cells #[.int .i64 k, .int .i64 7, .int .u64 0, .int .u64 0] 91 (0, 0)), CaR (.slice av es.length cv) es, CaR (.slice bv3 nb dv3) fs, Blk (W.heap.size + 1) (.cells #[.slice bv3 nb dv3] 85 (0, 0)), Blk (W.heap.size) (.cells #[.slice av es.length cv] 85 (0, 0))]) := h9
              obtain ⟨⟨adC, capC⟩, hG5⟩ : ∃ x, g9 5 = x := ⟨_, rfl⟩
              obtain ⟨⟨_, k3⟩, hG6⟩ : ∃ x, g9 6 = x := ⟨_, rfl⟩
              simp only [hG5, hG6, List.cons_append, List.nil_append] at hd er19
              clear hv h9 hG5 hG6 cf50
              clear g9
              simp only [patchG, Nat.reduceAdd, Nat.reduceLeDiff, decide_true, decide_false, Bool.and_true, Bool.and_false, Bool.or_true, Bool.or_false, cond_true, er19]
              clear er19
              clear H
              have H := hid hd
              clear hd
              rw [HNC.out] at H
              go_wp2_with fail
              have cf55 : ∀ args w, (callFunc 55 args).run Try.prog w = .ok (.enter 55 args) w := fun args w => by kernel_rfl
              refine wp_region_hold [[], [], [], [1, 2], [3], [0, 4], [5], [6], [6], [], [7, 9], [8]] [[], [], [], [], [], [], [], [], [], [9], [9], []] ([some 118, some 119, some 120, some 121, some 122, some 123, some 117, some 124, some 125, some 20, none, some 21] : List (Option Nat)) ([none, none, none, none, none, none, none, none, none, some 10, none, none] : List (Option Nat)) (
                  (fun _ => .agg #[.slice adC nc capC]) ::
                  (fun _ => .slice (some ⟨g, og, none⟩) len0 cap0) ::
                  (fun _ => .int .i64 (i : Nat)) ::
                  (fun _ => .pointer (some ⟨g, og + i, none⟩)) ::
                  (fun _ => .int .i64 k) ::
                  (fun _ => .tuple #[.agg #[.int .i64 za, .int .i64 zk, .int .u64 zx, .int .u64 zy], .bool false]) ::
                  (fun _ => .tuple #[.agg #[.int .i64 za, .int .i64 zk, .int .u64 zx, .int .u64 zy], .bool false]) ::
                  (fun _ => .agg #[.int .i64 za, .int .i64 zk, .int .u64 zx, .int .u64 zy]) ::
                  (fun _ => .bool false) ::
                  (fun gs => .pointer (some ⟨(gs.getD 0 default).2, 0, none⟩)) ::
                  (fun _ => undef) ::
                  (fun _ => .bool false) :: []) ((fun _ => []) :: (fun _ => []) :: (fun _ => []) :: (fun _ => []) :: (fun _ => []) :: (fun _ => []) :: (fun _ => []) :: (fun _ => []) :: (fun _ => []) :: (fun gs => [Blk (gs.getD 0 default).2 (.cells #[.int .i64 0, .int .i64 0, .int .u64 0, .int .u64 0] 91 (0, 0))]) :: (fun _ => []) :: (fun _ => []) :: ([] : List (List Gh → List Res))) ((fun _ => []) :: (fun _ => []) :: (fun _ => []) :: (fun _ => []) :: (fun _ => []) :: (fun _ => []) :: (fun _ => []) :: (fun _ => []) :: (fun _ => []) :: (fun gs => [Blk (gs.getD 0 default).2 (.cells #[.int .i64 za, .int .i64 zk, .int .u64 zx, .int .u64 zy] 91 (0, 0))]) :: (fun _ => []) :: (fun _ => []) :: ([] : List (List Gh → List Res))) (by kernel_rfl) (by kernel_rfl) rfl (hold_lt (n := 171) (by decide)) H.out (hold_nil (fs := [10]) (by decide) rfl ?_) (hold_fit (by decide)) ?_ ?_ (fun t => decide (20 ≤ t) && decide (t ≤ 21) || decide (117 ≤ t) && decide (t ≤ 125)) (by decide) ?_
              · intro s gs hs
                simp only [List.mem_cons, List.not_mem_nil, or_false] at hs
                subst hs; rfl
              · repeat (refine StepAll.cons (by first | exact trivial | exact fun g => rfl) ?_)
                exact trivial
              ·
                refine StepAll.cons ?_ ?_
                · refine HoldStep.val (by decide) fun a wx γ hn hr Ss hH K hK => ?_
                  have e19 : a.eval (.tmp 19) = .pointer (some ⟨k3, 0, none⟩) := (hr 19 (by decide)).trans rfl
                  have hB := Hd.rear hH
                  have kZ0 := (cell_of_heap (Hd.nthk 1 hB rfl) 0).trans (show _ = some (.slice adC nc capC) from rfl)
                  exact hold_run (v := .agg #[.slice adC nc capC]) (by clear hn hr hK; generalize a.eval = ρ at *; simp [execOp, e19, kZ0, go_sem]) rfl rfl hH hK
                refine StepAll.cons ?_ ?_
                · refine HoldStep.val (by decide) fun a wx γ hn hr Ss hH K hK => ?_
                  have e0 : a.eval (.tmp 0) = .slice (some ⟨g, og, none⟩) len0 cap0 := (hr 0 (by decide)).trans rfl
                  exact hold_run (v := .slice (some ⟨g, og, none⟩) len0 cap0) (by clear hn hr hK; generalize a.eval = ρ at *; simp [execOp, e0, go_sem]) rfl rfl hH hK
                refine StepAll.cons ?_ ?_
                · refine HoldStep.val (by decide) fun a wx γ hn hr Ss hH K hK => ?_
                  have e14 : a.eval (.tmp 14) = .int .i64 (i : Nat) := (hr 14 (by decide)).trans rfl
                  exact hold_run (v := .int .i64 (i : Nat)) (by clear hn hr hK; generalize a.eval = ρ at *; simp [execOp, e14, go_sem]) rfl rfl hH hK
                refine StepAll.cons ?_ ?_
                · refine HoldStep.val (by decide) fun a wx γ hn hr Ss hH K hK => ?_
                  have e119 : a.eval (.tmp 119) = .slice (some ⟨g, og, none⟩) len0 cap0 := hn 1 (by decide) 119 rfl
                  have e120 : a.eval (.tmp 120) = .int .i64 (i : Nat) := hn 2 (by decide) 120 rfl
                  exact hold_run (v := .pointer (some ⟨g, og + i, none⟩)) (by clear hn hr hK; generalize a.eval = ρ at *; simp [execOp, e119, e120, zj0, zj1, go_sem]) rfl rfl hH hK
                refine StepAll.cons ?_ ?_
                · refine HoldStep.val (by decide) fun a wx γ hn hr Ss hH K hK => ?_
                  have e121 : a.eval (.tmp 121) = .pointer (some ⟨g, og + i, none⟩) := hn 3 (by decide) 121 rfl
                  have hB := Hd.rear hH
                  have kx := bcl hB.below x0
                  exact hold_run (v := .int .i64 k) (by clear hn hr hK; generalize a.eval = ρ at *; simp [execOp, e121, kx, go_sem]) rfl rfl hH hK
                refine StepAll.cons ?_ ?_
                · refine HoldStep.val (by decide) fun a wx γ hn hr Ss hH K hK => ?_
                  have e118 : a.eval (.tmp 118) = .agg #[.slice adC nc capC] := hn 0 (by decide) 118 rfl
                  have e122 : a.eval (.tmp 122) = .int .i64 k := hn 4 (by decide) 122 rfl
                  have ef : a.eval (.func 55) = .func (.func 55) #[] #[] := rfl
                  have hca := ((Hd.rear hH).front 0 rfl).ca
                  exact hold_call (by clear hn hr hK hH; generalize a.eval = ρ at *; simp [execOp, e118, e122, cf55, ef, go_sem]) ((get16_h k HGZ.out HRC.out (by have := HNC.out; omega) hca).mono fun e w2 h => by obtain ⟨x, h1, h2⟩ := h; exact ⟨x, h1, h2 _⟩) hH hK
                refine StepAll.cons ?_ ?_
                · refine HoldStep.val (by decide) fun a wx γ hn hr Ss hH K hK => ?_
                  have e123 : a.eval (.tmp 123) = .tuple #[.agg #[.int .i64 za, .int .i64 zk, .int .u64 zx, .int .u64 zy], .bool false] := hn 5 (by decide) 123 rfl
                  exact hold_run (v := .tuple #[.agg #[.int .i64 za, .int .i64 zk, .int .u64 zx, .int .u64 zy], .bool false]) (by clear hn hr hK; generalize a.eval = ρ at *; simp [execOp, e123, go_sem]) rfl rfl hH hK
                refine StepAll.cons ?_ ?_
                · refine HoldStep.val (by decide) fun a wx γ hn hr Ss hH K hK => ?_
                  have e117 : a.eval (.tmp 117) = .tuple #[.agg #[.int .i64 za, .int .i64 zk, .int .u64 zx, .int .u64 zy], .bool false] := hn 6 (by decide) 117 rfl
                  exact hold_run (v := .agg #[.int .i64 za, .int .i64 zk, .int .u64 zx, .int .u64 zy]) (by clear hn hr hK; generalize a.eval = ρ at *; simp [execOp, e117, go_sem]) rfl rfl hH hK
                refine StepAll.cons ?_ ?_
                · refine HoldStep.val (by decide) fun a wx γ hn hr Ss hH K hK => ?_
                  have e117 : a.eval (.tmp 117) = .tuple #[.agg #[.int .i64 za, .int .i64 zk, .int .u64 zx, .int .u64 zy], .bool false] := hn 6 (by decide) 117 rfl
                  exact hold_run (v := .bool false) (by clear hn hr hK; generalize a.eval = ρ at *; simp [execOp, e117, go_sem]) rfl rfl hH hK
                refine StepAll.cons ?_ ?_
                · refine HoldStep.val (by decide) fun a wx γ hn hr Ss hH K hK => ?_
                  exact hold_new (obj := .cells #[.int .i64 0, .int .i64 0, .int .u64 0, .int .u64 0] 91 (0, 0)) (v := .pointer (some ⟨wx.heap.size, 0, none⟩)) (by clear hn hr hK; generalize a.eval = ρ at *; simp [execOp, go_sem]) rfl rfl hH hK
                refine StepAll.cons ?_ ?_
                · refine HoldStep.fil 9 (by decide) fun a wx γ hn hr Ss hH K hK => ?_
                  have e20 : a.eval (.tmp 20) = .pointer (some ⟨(γ 9).2, 0, none⟩) := hn 9 (by decide) 20 rfl
                  have e124 : a.eval (.tmp 124) = .agg #[.int .i64 za, .int .i64 zk, .int .u64 zx, .int .u64 zy] := hn 7 (by decide) 124 rfl
                  have hH2 : Hd W wx (Blk (γ 9).2 (.cells #[.int .i64 0, .int .i64 0, .int .u64 0, .int .u64 0] 91 (0, 0)) :: Ss) := hH
                  have hk := hH2.blk
                  have c0 := (cell_of_heap hk 0).trans (show _ = some (.int .i64 0) from rfl)
                  have c1 := (cell_of_heap hk 1).trans (show _ = some (.int .i64 0) from rfl)
                  have c2 := (cell_of_heap hk 2).trans (show _ = some (.int .u64 0) from rfl)
                  have c3 := (cell_of_heap hk 3).trans (show _ = some (.int .u64 0) from rfl)
                  have cf := frozen_of_heap hk
                  clear hk hH
                  exact hold_fil (w' := ((((wx.setCell ⟨(γ 9).2, 0, none⟩ (.int .i64 za)).setCell ⟨(γ 9).2, 1, none⟩ (.int .i64 zk)).setCell ⟨(γ 9).2, 2, none⟩ (.int .u64 zx)).setCell ⟨(γ 9).2, 3, none⟩ (.int .u64 zy))) (by clear hn hr hK hH2; generalize a.eval = ρ at *; simp [execOp, e20, e124, c0, c1, c2, c3, cf, go_sem]) (show Hd W _ (Blk (γ 9).2 _ :: Ss) from ((((hH2.set 0 (.int .i64 za)).set 1 (.int .i64 zk)).set 2 (.int .u64 zx)).set 3 (.int .u64 zy))) hK
                refine StepAll.cons ?_ ?_
                · refine HoldStep.val (by decide) fun a wx γ hn hr Ss hH K hK => ?_
                  have e125 : a.eval (.tmp 125) = .bool false := hn 8 (by decide) 125 rfl
                  exact hold_run (v := .bool false) (by clear hn hr hK; generalize a.eval = ρ at *; simp [execOp, e125, go_sem]) rfl rfl hH hK
                exact trivial
              intro f w9 g9 hv h9
              have er20 : f 20 = .pointer (some ⟨(g9 9).2, 0, none⟩) := hv 9 20 rfl
              have er21 : f 21 = .bool false := hv 11 21 rfl
              have hd : Hd W w9 ([Blk (g9 9).2 (.cells #[.int .i64 za, .int .i64 zk, .int .u64 zx, .int .u64 zy] 91 (0, 0))] ++ [CaR (.slice adC nc capC) c3, Blk (k3) (.cells #[.slice adC nc capC] 85 (0, 0)), Blk (k2) (.cells #[.int .i64 ya, .int .i64 yk, .int .u64 yx, .int .u64 yy] 91 (0, 0)), Blk (k1) (.cells #[.int .i64 k, .int .i64 7, .int .u64 0, .int .u64 0] 91 (0, 0)), CaR (.slice av es.length cv) es, CaR (.slice bv3 nb dv3) fs, Blk (W.heap.size + 1) (.cells #[.slice bv3 nb dv3] 85 (0, 0)), Blk (W.heap.size) (.cells #[.slice av es.length cv] 85 (0, 0))]) := h9
              obtain ⟨⟨_, k4⟩, hG9⟩ : ∃ x, g9 9 = x := ⟨_, rfl⟩
              simp only [hG9, List.cons_append, List.nil_append] at hd er20 er21
              clear hv h9 hG9 cf55
              clear g9
              simp only [patchG, Nat.reduceAdd, Nat.reduceLeDiff, decide_true, decide_false, Bool.and_true, Bool.and_false, Bool.or_true, Bool.or_false, cond_true, cond_false, er20, er21]
              clear er20 er21
              clear H
              have H := hid hd
              clear hd
              clear x0
              cases was
              · obtain rfl : nc = nb := hwf rfl
                clear hwt hwf
                have hk := Hd.nthk 2 H.out rfl
                have cc0 := (cell_of_heap hk 0).trans (show _ = some (.slice adC nc capC) from rfl)
                have ccs := (Array.getElem?_eq_some_iff.1 hk).1
                clear hk
                have hk := Hd.nthk 7 H.out rfl
                have b0 := (cell_of_heap hk 0).trans (show _ = some (.slice bv3 nc dv3) from rfl)
                have bs := (Array.getElem?_eq_some_iff.1 hk).1
                have bf := frozen_of_heap hk
                clear hk
                go_wp2_with fail
                go_roundw
                case rel => exact ⟨i + 1, .slice adC nc capC, c3, by omega, by go_num, HRC, by have := HNC.out; omega, HLC, hid (Hd.dropEnd (Rs := [CaR (.slice av es.length cv) es, CaR (.slice adC nc capC) c3, Blk (W.heap.size + 1) (.cells #[.slice adC nc capC] 85 (0, 0)), Blk W.heap.size (.cells #[.slice av es.length cv] 85 (0, 0))]) (((((H.out.front 7 rfl).set 0 (.slice adC nc capC)).front 8 rfl).front 1 rfl |>.front 3 rfl).front 7 rfl))⟩
                case measure => simp [intOf]; omega
              · have hx := hwt rfl
                clear hwt hwf
                have hx1 : ((nc : Int) != (nb : Int) - 1) = false := by rw [bne_eq_false_iff_eq]; omega
                have hx2 : decide ((nc : Int) = (nb : Int) - 1) = true := by simp; omega
                have hx3 : ((nc : Int) == (nb : Int) - 1) = true := by rw [beq_iff_eq]; omega
                have HX := hid hx
                clear hx
                have hk := Hd.nthk 2 H.out rfl
                have cc0 := (cell_of_heap hk 0).trans (show _ = some (.slice adC nc capC) from rfl)
                have ccs := (Array.getElem?_eq_some_iff.1 hk).1
                clear hk
                have hk := Hd.nthk 7 H.out rfl
                have b0 := (cell_of_heap hk 0).trans (show _ = some (.slice bv3 nb dv3) from rfl)
                have bs := (Array.getElem?_eq_some_iff.1 hk).1
                have bf := frozen_of_heap hk
                clear hk
                go_wp2_with fail
                go_roundw
                case rel => exact ⟨i + 1, .slice adC nc capC, c3, by omega, by go_num, HRC, by have := HNC.out; omega, HLC, hid (Hd.dropEnd (Rs := [CaR (.slice av es.length cv) es, CaR (.slice adC nc capC) c3, Blk (W.heap.size + 1) (.cells #[.slice adC nc capC] 85 (0, 0)), Blk W.heap.size (.cells #[.slice av es.length cv] 85 (0, 0))]) (((((H.out.front 7 rfl).set 0 (.slice adC nc capC)).front 8 rfl).front 1 rfl |>.front 3 rfl).front 7 rfl))⟩
                case measure => simp [intOf]; omega
            · obtain rfl : i = j := by omega
              obtain rfl : fs = [] := left_all HH.out HL.out
              obtain rfl : nb = 0 := by rw [← HNB.out]; rfl
              have dm : decide ((i : Int) < (i : Int)) = false := by simp
              have hk := Hd.nthk 2 H.out rfl
              have b0 := (cell_of_heap hk 0).trans (show _ = some (.slice bv3 0 dv3) from rfl)
              have bs := (Array.getElem?_eq_some_iff.1 hk).1
              clear hk
              go_wp2_with fail
              have hca : CaAt wo3 (.slice bv3 0 dv3) [] := (H.out.front 1 rfl).ca
              refine (keys_calls hca (by decide)).mono ?_
              rintro e w5 ⟨u5, rfl, hu5, hb5⟩
              obtain ⟨a5, c5, rfl, -⟩ := hu5.ex
              rw [show (kKeys []).length = 0 from rfl]
              clear b0 bs hca hu5
              go_wp2_with fail
              refine (fixed16_calls w5).mono ?_
              rintro e w9 ⟨rfl, hb9⟩
              have H2 := hid (H.out.still hb5)
              clear H hb5
              go_wp2_with fail
              go_ret
              exact ⟨rfl, H2.out.below.trans (hb9.mono H2.out.below.size)⟩
end Go.Proofs.Ytbaliaodioflfaa
