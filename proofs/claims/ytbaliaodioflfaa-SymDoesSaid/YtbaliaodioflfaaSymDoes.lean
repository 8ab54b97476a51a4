/-
  SymDoes returns true, and writes nothing that was there. For every input.
-/
import Derived.Test.YtbaliaodioflfaaSymCounts
import Derived.Test.YtbaliaodioflfaaRSymB
import Derived.Test.YtbaliaodioflfaaSymDoesB
import Derived.Test.YtbaliaodioflfaaSame
import Derived.Test.YtbaliaodioflfaaFixG
import Derived.Test.YtbaliaodioflfaaHold
namespace Go.Proofs.Ytbaliaodioflfaa
open Go.RowKit

abbrev RBox (y : Nat) (ck k h n : Int) : Res := Blk y (.cells #[.int .i64 ck, .int .i64 k, .int .i64 h, .int .u64 n] 31 (0, 0))

theorem ref7_h (ck k h n : Int) (w : World) :
    Calls Try.prog 23 #[.agg #[.int .i64 ck, .int .i64 k, .int .i64 h, .int .u64 n]] w fun e w' => ∃ _x : Gh, e = .returned (.agg #[.int .i64 ck, .int .i64 k, .int .i64 h, .int .u64 n]) ∧ ∀ W Xs, Hd W w Xs → Hd W w' ([] ++ Xs) :=
  (ref7_calls ck k h n (Hd.refl w)).mono fun _ _ h => ⟨default, h.1, fun _ _ hx => hx.still h.2.below⟩
theorem evc (a : Act) (c : Value) : a.eval (.const c) = c := rfl
theorem blks_ne7 {W w : World} {Rs : List Res} {a b : Nat} {o p : Obj} (h : Hd W w (Blk a o :: Blk b p :: Rs)) : ¬ a = b := by
  intro e
  subst e
  obtain ⟨_, f, hf, _, _, g, hg, _, hd, _⟩ := h
  have hf' : f = fun j => if j = a then some o else none := hf
  have hg' : g = fun j => if j = a then some p else none := hg
  subst hf' hg'
  exact hd a (by simp) (.inr (by simp))
theorem Hd.nthk {W w : World} {k : Nat} {o : Obj} (i : Nat) {Rs : List Res} (h : Hd W w Rs) (e : Rs[i]? = some (Blk k o)) : w.heap[k]? = some o := Hd.nth i h e
theorem Hd.front {W w : World} {Rs : List Res} {R : Res} (i : Nat) (h : Hd W w Rs) (e : Rs[i]? = some R) : Hd W w (R :: Rs.eraseIdx i) := by
  have key : ∀ (l : List Res) (i : Nat), l[i]? = some R → l.Perm (R :: l.eraseIdx i) := by
    intro l
    induction l with
    | nil => intro i h; simp at h
    | cons x l ih =>
      intro i h
      cases i with
      | zero =>
        simp only [List.getElem?_cons_zero, Option.some.injEq] at h
        subst h
        exact List.Perm.refl _
      | succ i => exact ((ih i (by simpa using h)).cons x).trans (List.Perm.swap _ _ _)
  exact Hd.perm (key Rs i e) h
theorem Hd.dropEnd7 {W w : World} {Rs Ss : List Res} (h : Hd W w (Rs ++ Ss)) : Hd W w Rs := by
  have key : ∀ (Rs : List Res) (u : Nat → Prop), Lies w u (Rs ++ Ss) → Lies w u Rs := by
    intro Rs
    induction Rs with
    | nil => exact fun _ _ => trivial
    | cons x Rs ih => exact fun u h => Lies.cons_mono (fun v => ih v) h
  exact ⟨h.below, key Rs _ h.lies⟩

set_option maxRecDepth 100000 in
set_option maxHeartbeats 64000000 in
theorem symDoes_walk (ad : Option Addr) (len cap : Nat) (ts : List T) (ck0 kk0 hh0 nn0 : Int) (hN0 : 0 ≤ nn0) (hN1 : nn0 ≤ 18446744073709551615) (ad2 : Option Addr) (len2 cap2 : Nat) (zs : List (List Int)) (W : World) (hlen : len = ts.length) (hmax : len ≤ maxLen) (hts : TermsIn W ad ts)
    (hlen2 : len2 = zs.length) (hmax2 : len2 ≤ maxLen) (hzs : RowsIn 2 .i64 W ad2 zs) :
    Calls Try.prog 3 #[.slice ad len cap, .agg #[.int .i64 ck0, .int .i64 kk0, .int .i64 hh0, .int .u64 nn0], .slice ad2 len2 cap2] W fun e w' => e = .returned (.bool true) ∧ Below W.heap.size W w' := by
  have mixed : Try.prog.follows .mixedOrders = true := by kernel_rfl
  have Hlen := hid hlen
  have Hts := hid hts
  have Hmax := hid hmax
  have Hlen2 := hid hlen2
  unfold maxLen at hmax2
  have Hzs := hid hzs
  clear hts hlen hmax hlen2 hzs
  go_enter Try.func3, Try.ntmps3
  go_wp2_with fail
  refine (stores_calls ((Hd.refl W).box _) ad len cap ts Hlen.out Hmax.out Hts.out 30 (by decide)).mono ?_
  rintro e w1 ⟨b, b', L, rfl, hg, hl, hd⟩
  have H := hid hd
  clear hd hg hl
  have hk := Hd.nth 2 H.out rfl
  have y0 := (cell_of_heap hk 0).trans (show _ = some (.int .i64 ck0) from rfl)
  have y1 := (cell_of_heap hk 1).trans (show _ = some (.int .i64 kk0) from rfl)
  have y2 := (cell_of_heap hk 2).trans (show _ = some (.int .i64 hh0) from rfl)
  have y3 := (cell_of_heap hk 3).trans (show _ = some (.int .u64 nn0) from rfl)
  have yf := frozen_of_heap hk
  have yl := (Array.getElem?_eq_some_iff.1 hk).1
  clear hk
  go_wp2_with fail
  refine (ref7_calls ck0 kk0 hh0 nn0 H.out).mono ?_
  rintro e w2 ⟨rfl, h2⟩
  clear H y0 y1 y2 y3 yf yl
  have H := hid h2
  clear h2
  go_wp2_with fail
  go_loopw [10] (fun i wr => ∃ j : Nat, j ≤ len2 ∧ i = .int .i64 j ∧ ∃ (L : List T) (ck k h n : Int), Hid (0 ≤ n ∧ n ≤ 18446744073709551615) ∧ Hid (Hd W wr [Sto b L 1000, RSto b' L 1000, RBox w2.heap.size ck k h n, SBox W.heap.size ck k h n])) (fun i _ => len2 - (intOf i).toNat)
  case atStart => exact ⟨0, Nat.zero_le _, rfl, L, ck0, kk0, hh0, nn0, hid ⟨hN0, hN1⟩, hid H.out.bx.third.swap⟩
  case round =>
    clear H hN0 hN1
    obtain ⟨j, hj, rfl, L, ck, k, h, n, HN, H⟩ := hrel
    by_cases hlt : j < len2 ∧ j < 20
    · have hd1 : decide (j < len2) = true := by simpa using hlt.1
      have hd2 : decide ((j : Int) < 20) = true := by simp; omega
      obtain ⟨z, hz⟩ : ∃ z, zs[j]? = some z := ⟨zs[j]'(by rw [← Hlen2.out]; exact hlt.1), List.getElem?_eq_getElem _⟩
      obtain ⟨hzl, hzb, g, o, rfl, hc⟩ := Hzs.out j z hz
      obtain ⟨u, v, rfl⟩ : ∃ u v, z = [u, v] := by
        match z, hzl with
        | [u, v], _ => exact ⟨u, v, rfl⟩
      have k0 := hc 0 u rfl
      have k1 := hc 1 v rfl
      simp only [Nat.add_zero] at k0
      have kb := World.block_lt_of_cell? W _ k0
      have HK : Hid (∀ w, Below W.heap.size W w → w.cell? ⟨g, o + j * 2, none⟩ = some (.int .i64 u)) := hid fun w hb => (hb.cell (p := ⟨g, o + j * 2, none⟩) kb).trans k0
      have c1 : wr.cell? ⟨g, o + j * 2 + 1, none⟩ = some (.int .i64 v) := (H.out.below.cell (p := ⟨g, o + j * 2 + 1, none⟩) kb).trans k1
      have hj0 : (0 : Int) ≤ (j : Int) := by omega
      have hj1 : (j : Int) < (len2 : Int) := by omega
      clear hc hz hzl hzb k0 k1 kb hlt
      go_wp2_with fail
      refine wp_region_hold [[], [], [], [], [0, 2], [1, 3]] [[], [], [2], [3], [2], [3]] ([some 48, some 49, some 16, some 17, none, none] : List (Option Nat)) ([none, none, some 4, some 5, none, none] : List (Option Nat)) (
          (fun _ => .agg #[.int .i64 ck, .int .i64 k, .int .i64 h, .int .u64 n]) ::
          (fun _ => .agg #[.int .i64 ck, .int .i64 k, .int .i64 h, .int .u64 n]) ::
          (fun gs => .pointer (some ⟨(gs.getD 0 default).2, 0, none⟩)) ::
          (fun gs => .pointer (some ⟨(gs.getD 0 default).2, 0, none⟩)) ::
          (fun _ => undef) ::
          (fun _ => undef) :: []) ((fun _ => []) :: (fun _ => []) :: (fun gs => [Blk (gs.getD 0 default).2 (.cells #[.int .i64 0, .int .i64 0, .int .i64 0, .int .u64 0] 25 (0, 0))]) :: (fun gs => [Blk (gs.getD 0 default).2 (.cells #[.int .i64 0, .int .i64 0, .int .i64 0, .int .u64 0] 31 (0, 0))]) :: (fun _ => []) :: (fun _ => []) :: ([] : List (List Gh → List Res))) ((fun _ => []) :: (fun _ => []) :: (fun gs => [Blk (gs.getD 0 default).2 (.cells #[.int .i64 ck, .int .i64 k, .int .i64 h, .int .u64 n] 25 (0, 0))]) :: (fun gs => [Blk (gs.getD 0 default).2 (.cells #[.int .i64 ck, .int .i64 k, .int .i64 h, .int .u64 n] 31 (0, 0))]) :: (fun _ => []) :: (fun _ => []) :: ([] : List (List Gh → List Res))) (by kernel_rfl) (by kernel_rfl) rfl (hold_lt (n := 196) (by decide)) H.out (hold_nil (fs := [4, 5]) (by decide) rfl ?_) (hold_fit (by decide)) ?_ ?_ (fun t => decide (16 ≤ t) && decide (t ≤ 17) || decide (48 ≤ t) && decide (t ≤ 49)) (by decide) ?_
      · intro s gs hs
        simp only [List.mem_cons, List.not_mem_nil, or_false] at hs
        rcases hs with rfl | rfl <;> rfl
      · repeat (refine StepAll.cons (by first | exact trivial | exact fun g => rfl) ?_)
        exact trivial
      ·
        refine StepAll.cons ?_ ?_
        · refine HoldStep.val (by decide) fun a wx γ hn hr Ss hH K hK => ?_
          have e4 : a.eval (.tmp 4) = .pointer (some ⟨W.heap.size, 0, none⟩) := (hr 4 (by decide)).trans rfl
          have hB := Hd.rear hH
          have kY0 := (cell_of_heap (Hd.nthk 3 hB rfl) 0).trans (show _ = some (.int .i64 ck) from rfl)
          have kY1 := (cell_of_heap (Hd.nthk 3 hB rfl) 1).trans (show _ = some (.int .i64 k) from rfl)
          have kY2 := (cell_of_heap (Hd.nthk 3 hB rfl) 2).trans (show _ = some (.int .i64 h) from rfl)
          have kY3 := (cell_of_heap (Hd.nthk 3 hB rfl) 3).trans (show _ = some (.int .u64 n) from rfl)
          exact hold_run (v := .agg #[.int .i64 ck, .int .i64 k, .int .i64 h, .int .u64 n]) (by clear hn hr hK; generalize a.eval = ρ at *; simp [execOp, e4, kY0, kY1, kY2, kY3, go_sem]) rfl rfl hH hK
        refine StepAll.cons ?_ ?_
        · refine HoldStep.val (by decide) fun a wx γ hn hr Ss hH K hK => ?_
          have e9 : a.eval (.tmp 9) = .pointer (some ⟨w2.heap.size, 0, none⟩) := (hr 9 (by decide)).trans rfl
          have hB := Hd.rear hH
          have kZ0 := (cell_of_heap (Hd.nthk 2 hB rfl) 0).trans (show _ = some (.int .i64 ck) from rfl)
          have kZ1 := (cell_of_heap (Hd.nthk 2 hB rfl) 1).trans (show _ = some (.int .i64 k) from rfl)
          have kZ2 := (cell_of_heap (Hd.nthk 2 hB rfl) 2).trans (show _ = some (.int .i64 h) from rfl)
          have kZ3 := (cell_of_heap (Hd.nthk 2 hB rfl) 3).trans (show _ = some (.int .u64 n) from rfl)
          exact hold_run (v := .agg #[.int .i64 ck, .int .i64 k, .int .i64 h, .int .u64 n]) (by clear hn hr hK; generalize a.eval = ρ at *; simp [execOp, e9, kZ0, kZ1, kZ2, kZ3, go_sem]) rfl rfl hH hK
        refine StepAll.cons ?_ ?_
        · refine HoldStep.val (by decide) fun a wx γ hn hr Ss hH K hK => ?_
          exact hold_new (obj := .cells #[.int .i64 0, .int .i64 0, .int .i64 0, .int .u64 0] 25 (0, 0)) (v := .pointer (some ⟨wx.heap.size, 0, none⟩)) (by clear hn hr hK; generalize a.eval = ρ at *; simp [execOp, go_sem]) rfl rfl hH hK
        refine StepAll.cons ?_ ?_
        · refine HoldStep.val (by decide) fun a wx γ hn hr Ss hH K hK => ?_
          exact hold_new (obj := .cells #[.int .i64 0, .int .i64 0, .int .i64 0, .int .u64 0] 31 (0, 0)) (v := .pointer (some ⟨wx.heap.size, 0, none⟩)) (by clear hn hr hK; generalize a.eval = ρ at *; simp [execOp, go_sem]) rfl rfl hH hK
        refine StepAll.cons ?_ ?_
        · refine HoldStep.fil 2 (by decide) fun a wx γ hn hr Ss hH K hK => ?_
          have e16 : a.eval (.tmp 16) = .pointer (some ⟨(γ 2).2, 0, none⟩) := hn 2 (by decide) 16 rfl
          have e48 : a.eval (.tmp 48) = .agg #[.int .i64 ck, .int .i64 k, .int .i64 h, .int .u64 n] := hn 0 (by decide) 48 rfl
          have hH2 : Hd W wx (Blk (γ 2).2 (.cells #[.int .i64 0, .int .i64 0, .int .i64 0, .int .u64 0] 25 (0, 0)) :: Ss) := hH
          have hk := hH2.blk
          have c0 := (cell_of_heap hk 0).trans (show _ = some (.int .i64 0) from rfl)
          have c1 := (cell_of_heap hk 1).trans (show _ = some (.int .i64 0) from rfl)
          have c2 := (cell_of_heap hk 2).trans (show _ = some (.int .i64 0) from rfl)
          have c3 := (cell_of_heap hk 3).trans (show _ = some (.int .u64 0) from rfl)
          have cf := frozen_of_heap hk
          clear hk hH
          exact hold_fil (w' := ((((wx.setCell ⟨(γ 2).2, 0, none⟩ (.int .i64 ck)).setCell ⟨(γ 2).2, 1, none⟩ (.int .i64 k)).setCell ⟨(γ 2).2, 2, none⟩ (.int .i64 h)).setCell ⟨(γ 2).2, 3, none⟩ (.int .u64 n))) (by clear hn hr hK hH2; generalize a.eval = ρ at *; simp [execOp, e16, e48, c0, c1, c2, c3, cf, go_sem]) (show Hd W _ (Blk (γ 2).2 _ :: Ss) from ((((hH2.set 0 (.int .i64 ck)).set 1 (.int .i64 k)).set 2 (.int .i64 h)).set 3 (.int .u64 n))) hK
        refine StepAll.cons ?_ ?_
        · refine HoldStep.fil 3 (by decide) fun a wx γ hn hr Ss hH K hK => ?_
          have e17 : a.eval (.tmp 17) = .pointer (some ⟨(γ 3).2, 0, none⟩) := hn 3 (by decide) 17 rfl
          have e49 : a.eval (.tmp 49) = .agg #[.int .i64 ck, .int .i64 k, .int .i64 h, .int .u64 n] := hn 1 (by decide) 49 rfl
          have hH2 : Hd W wx (Blk (γ 3).2 (.cells #[.int .i64 0, .int .i64 0, .int .i64 0, .int .u64 0] 31 (0, 0)) :: Ss) := hH
          have hk := hH2.blk
          have c0 := (cell_of_heap hk 0).trans (show _ = some (.int .i64 0) from rfl)
          have c1 := (cell_of_heap hk 1).trans (show _ = some (.int .i64 0) from rfl)
          have c2 := (cell_of_heap hk 2).trans (show _ = some (.int .i64 0) from rfl)
          have c3 := (cell_of_heap hk 3).trans (show _ = some (.int .u64 0) from rfl)
          have cf := frozen_of_heap hk
          clear hk hH
          exact hold_fil (w' := ((((wx.setCell ⟨(γ 3).2, 0, none⟩ (.int .i64 ck)).setCell ⟨(γ 3).2, 1, none⟩ (.int .i64 k)).setCell ⟨(γ 3).2, 2, none⟩ (.int .i64 h)).setCell ⟨(γ 3).2, 3, none⟩ (.int .u64 n))) (by clear hn hr hK hH2; generalize a.eval = ρ at *; simp [execOp, e17, e49, c0, c1, c2, c3, cf, go_sem]) (show Hd W _ (Blk (γ 3).2 _ :: Ss) from ((((hH2.set 0 (.int .i64 ck)).set 1 (.int .i64 k)).set 2 (.int .i64 h)).set 3 (.int .u64 n))) hK
        exact trivial
      intro f w9 g9 hv h9
      have er16 : f 16 = .pointer (some ⟨(g9 2).2, 0, none⟩) := hv 2 16 rfl
      have er17 : f 17 = .pointer (some ⟨(g9 3).2, 0, none⟩) := hv 3 17 rfl
      have hd : Hd W w9 ([Blk (g9 2).2 (.cells #[.int .i64 ck, .int .i64 k, .int .i64 h, .int .u64 n] 25 (0, 0)), Blk (g9 3).2 (.cells #[.int .i64 ck, .int .i64 k, .int .i64 h, .int .u64 n] 31 (0, 0))] ++ [Sto b L 1000, RSto b' L 1000, Blk (w2.heap.size) (.cells #[.int .i64 ck, .int .i64 k, .int .i64 h, .int .u64 n] 31 (0, 0)), Blk (W.heap.size) (.cells #[.int .i64 ck, .int .i64 k, .int .i64 h, .int .u64 n] 25 (0, 0))]) := h9
      obtain ⟨⟨_, ka⟩, hG2⟩ : ∃ x, g9 2 = x := ⟨_, rfl⟩
      obtain ⟨⟨_, kb⟩, hG3⟩ : ∃ x, g9 3 = x := ⟨_, rfl⟩
      simp only [hG2, hG3, List.cons_append, List.nil_append] at hd er16 er17
      clear hv h9 hG2 hG3 
      clear g9
      simp only [patchG, Nat.reduceAdd, Nat.reduceLeDiff, decide_true, decide_false, Bool.and_true, Bool.and_false, Bool.or_true, Bool.or_false, cond_true, cond_false, er16, er17]
      clear er16 er17
      clear H
      have H := hid hd
      clear hd
      have c0 := HK.out _ H.out.below
      have h7 := i64_and7 u
      have hu0 : u % 8 = 0 ∨ u % 8 = 1 ∨ u % 8 = 2 ∨ u % 8 = 3 ∨ u % 8 = 4 ∨ u % 8 = 5 ∨ u % 8 = 6 ∨ u % 8 = 7 := by omega
      rcases hu0 with hu | hu | hu | hu | hu | hu | hu | hu
      · rw [hu] at h7
        clear hu
        obtain ⟨⟨⟨c1, k1, h1, n1⟩, e1, L1⟩, hR⟩ : ∃ r, sBegin 1000 L (names7 v) = r := ⟨_, rfl⟩
        have HF := hid (sBegin_fits 1000 L (names7 v))
        rw [hR] at HF
        have HR := hid hR
        clear hR
        have H9 := hid (H.out.front 2 rfl)
        clear H
        have H := H9
        clear H9
        go_wp2_with fail
        refine (names7_calls v H.out).mono ?_
        rintro e w5 ⟨rfl, hd⟩
        clear H c0
        have H := hid hd
        clear hd
        go_wp2_with fail
        refine (sbegin_calls (names7 v) H.out).mono ?_
        rw [HR.out]
        dsimp only
        rintro e w6 ⟨rfl, hd⟩
        clear H
        have H := hid hd
        clear hd
        have hk := Hd.nthk 1 H.out rfl
        have aa0 := (cell_of_heap hk 0).trans (show _ = some (.int .i64 ck) from rfl)
        have aa1 := (cell_of_heap hk 1).trans (show _ = some (.int .i64 k) from rfl)
        have aa2 := (cell_of_heap hk 2).trans (show _ = some (.int .i64 h) from rfl)
        have aa3 := (cell_of_heap hk 3).trans (show _ = some (.int .u64 n) from rfl)
        have aas := (Array.getElem?_eq_some_iff.1 hk).1
        have aaf := frozen_of_heap hk
        clear hk
        go_wp2_with fail
        have H9 := hid ((((((H.out.front 1 rfl).set 0 (.int .i64 c1)).set 1 (.int .i64 k1)).set 2 (.int .i64 h1)).set 3 (.int .u64 n1)))
        clear aa0 aa1 aa2 aa3 aas aaf H
        have H := H9
        clear H9
        have H9 := hid (H.out.front 3 rfl)
        clear H
        have H := H9
        clear H9
        refine (names7_calls v H.out).mono ?_
        rintro e w7 ⟨rfl, hd⟩
        clear H
        have H := hid hd
        clear hd
        go_wp2_with fail
        refine (rsbegin_calls (names7 v) H.out).mono ?_
        rw [HR.out]
        dsimp only
        rintro e w8 ⟨rfl, hd⟩
        clear H
        have H := hid hd
        clear hd
        have hk := Hd.nthk 3 H.out rfl
        have bb0 := (cell_of_heap hk 0).trans (show _ = some (.int .i64 ck) from rfl)
        have bb1 := (cell_of_heap hk 1).trans (show _ = some (.int .i64 k) from rfl)
        have bb2 := (cell_of_heap hk 2).trans (show _ = some (.int .i64 h) from rfl)
        have bb3 := (cell_of_heap hk 3).trans (show _ = some (.int .u64 n) from rfl)
        have bbs := (Array.getElem?_eq_some_iff.1 hk).1
        have bbf := frozen_of_heap hk
        clear hk
        go_wp2_with fail
        have H9 := hid ((((((H.out.front 3 rfl).set 0 (.int .i64 c1)).set 1 (.int .i64 k1)).set 2 (.int .i64 h1)).set 3 (.int .u64 n1)))
        clear bb0 bb1 bb2 bb3 bbs bbf H
        have H := H9
        clear H9
        have cf23 : ∀ args w, (callFunc 23 args).run Try.prog w = .ok (.enter 23 args) w := fun args w => by kernel_rfl
        refine wp_region_hold [[], [], [0, 1], [2], [3], [3], [3, 4, 5], [3, 6], [7], [8], [8, 9], [8], [8, 10, 11], [8, 12]] [[], [], [], [], [], [], [], [], [], [], [], [], [], []] ([some 171, some 172, some 173, some 174, some 175, some 176, some 177, some 178, some 179, some 180, some 181, some 182, some 183, some 184] : List (Option Nat)) ([none, none, none, none, none, none, none, none, none, none, none, none, none, none] : List (Option Nat)) (
            (fun _ => .int .i64 e1) ::
            (fun _ => .int .i64 e1) ::
            (fun _ => .bool false) ::
            (fun _ => .bool false) ::
            (fun _ => .int .i64 0) ::
            (fun _ => .int .i64 0) ::
            (fun _ => .bool false) ::
            (fun _ => .bool false) ::
            (fun _ => .bool false) ::
            (fun _ => .agg #[.int .i64 c1, .int .i64 k1, .int .i64 h1, .int .u64 n1]) ::
            (fun _ => .agg #[.int .i64 c1, .int .i64 k1, .int .i64 h1, .int .u64 n1]) ::
            (fun _ => .agg #[.int .i64 c1, .int .i64 k1, .int .i64 h1, .int .u64 n1]) ::
            (fun _ => .bool false) ::
            (fun _ => .bool false) :: []) ((fun _ => []) :: (fun _ => []) :: (fun _ => []) :: (fun _ => []) :: (fun _ => []) :: (fun _ => []) :: (fun _ => []) :: (fun _ => []) :: (fun _ => []) :: (fun _ => []) :: (fun _ => []) :: (fun _ => []) :: (fun _ => []) :: (fun _ => []) :: ([] : List (List Gh → List Res))) ((fun _ => []) :: (fun _ => []) :: (fun _ => []) :: (fun _ => []) :: (fun _ => []) :: (fun _ => []) :: (fun _ => []) :: (fun _ => []) :: (fun _ => []) :: (fun _ => []) :: (fun _ => []) :: (fun _ => []) :: (fun _ => []) :: (fun _ => []) :: ([] : List (List Gh → List Res))) (by kernel_rfl) (by kernel_rfl) rfl (hold_lt (n := 196) (by decide)) H.out (hold_nil (fs := []) (by decide) rfl ?_) (hold_fit (by decide)) ?_ ?_ (fun t => decide (171 ≤ t) && decide (t ≤ 184)) (by decide) ?_
        · intro s gs hs
          cases hs
        · repeat (refine StepAll.cons (by first | exact trivial | exact fun g => rfl) ?_)
          exact trivial
        ·
          refine StepAll.cons ?_ ?_
          · refine HoldStep.val (by decide) fun a wx γ hn hr Ss hH K hK => ?_
            have e12 : a.eval (.tmp 12) = .int .i64 e1 := (hr 12 (by decide)).trans rfl
            exact hold_run (v := .int .i64 e1) (by clear hn hr hK; generalize a.eval = ρ at *; simp [execOp, e12, go_sem]) rfl rfl hH hK
          refine StepAll.cons ?_ ?_
          · refine HoldStep.val (by decide) fun a wx γ hn hr Ss hH K hK => ?_
            have e13 : a.eval (.tmp 13) = .int .i64 e1 := (hr 13 (by decide)).trans rfl
            exact hold_run (v := .int .i64 e1) (by clear hn hr hK; generalize a.eval = ρ at *; simp [execOp, e13, go_sem]) rfl rfl hH hK
          refine StepAll.cons ?_ ?_
          · refine HoldStep.val (by decide) fun a wx γ hn hr Ss hH K hK => ?_
            have e171 : a.eval (.tmp 171) = .int .i64 e1 := hn 0 (by decide) 171 rfl
            have e172 : a.eval (.tmp 172) = .int .i64 e1 := hn 1 (by decide) 172 rfl
            exact hold_run (v := .bool false) (by clear hn hr hK; generalize a.eval = ρ at *; simp [execOp, e171, e172, go_sem]) rfl rfl hH hK
          refine StepAll.cons ?_ ?_
          · refine HoldStep.val (by decide) fun a wx γ hn hr Ss hH K hK => ?_
            have e173 : a.eval (.tmp 173) = .bool false := hn 2 (by decide) 173 rfl
            exact hold_run (v := .bool false) (by clear hn hr hK; generalize a.eval = ρ at *; simp [execOp, e173, go_sem]) rfl rfl hH hK
          refine StepAll.cons ?_ ?_
          · refine HoldStep.val (by decide) fun a wx γ hn hr Ss hH K hK => ?_
            have e14 : a.eval (.tmp 14) = .int .i64 0 := (hr 14 (by decide)).trans rfl
            exact hold_run (v := .int .i64 0) (by clear hn hr hK; generalize a.eval = ρ at *; simp [execOp, e14, go_sem]) rfl rfl hH hK
          refine StepAll.cons ?_ ?_
          · refine HoldStep.val (by decide) fun a wx γ hn hr Ss hH K hK => ?_
            have e15 : a.eval (.tmp 15) = .int .i64 0 := (hr 15 (by decide)).trans rfl
            exact hold_run (v := .int .i64 0) (by clear hn hr hK; generalize a.eval = ρ at *; simp [execOp, e15, go_sem]) rfl rfl hH hK
          refine StepAll.cons ?_ ?_
          · refine HoldStep.val (by decide) fun a wx γ hn hr Ss hH K hK => ?_
            have e175 : a.eval (.tmp 175) = .int .i64 0 := hn 4 (by decide) 175 rfl
            have e176 : a.eval (.tmp 176) = .int .i64 0 := hn 5 (by decide) 176 rfl
            exact hold_run (v := .bool false) (by clear hn hr hK; generalize a.eval = ρ at *; simp [execOp, e175, e176, go_sem]) rfl rfl hH hK
          refine StepAll.cons ?_ ?_
          · refine HoldStep.val (by decide) fun a wx γ hn hr Ss hH K hK => ?_
            have e174 : a.eval (.tmp 174) = .bool false := hn 3 (by decide) 174 rfl
            have e177 : a.eval (.tmp 177) = .bool false := hn 6 (by decide) 177 rfl
            exact hold_run (v := .bool false) (by clear hn hr hK; generalize a.eval = ρ at *; simp [execOp, e174, e177, go_sem]) rfl rfl hH hK
          refine StepAll.cons ?_ ?_
          · refine HoldStep.val (by decide) fun a wx γ hn hr Ss hH K hK => ?_
            have e178 : a.eval (.tmp 178) = .bool false := hn 7 (by decide) 178 rfl
            exact hold_run (v := .bool false) (by clear hn hr hK; generalize a.eval = ρ at *; simp [execOp, e178, go_sem]) rfl rfl hH hK
          refine StepAll.cons ?_ ?_
          · refine HoldStep.val (by decide) fun a wx γ hn hr Ss hH K hK => ?_
            have e16 : a.eval (.tmp 16) = .pointer (some ⟨ka, 0, none⟩) := (hr 16 (by decide)).trans rfl
            have hB := Hd.rear hH
            have kA0 := (cell_of_heap (Hd.nthk 2 hB rfl) 0).trans (show _ = some (.int .i64 c1) from rfl)
            have kA1 := (cell_of_heap (Hd.nthk 2 hB rfl) 1).trans (show _ = some (.int .i64 k1) from rfl)
            have kA2 := (cell_of_heap (Hd.nthk 2 hB rfl) 2).trans (show _ = some (.int .i64 h1) from rfl)
            have kA3 := (cell_of_heap (Hd.nthk 2 hB rfl) 3).trans (show _ = some (.int .u64 n1) from rfl)
            exact hold_run (v := .agg #[.int .i64 c1, .int .i64 k1, .int .i64 h1, .int .u64 n1]) (by clear hn hr hK; generalize a.eval = ρ at *; simp [execOp, e16, kA0, kA1, kA2, kA3, go_sem]) rfl rfl hH hK
          refine StepAll.cons ?_ ?_
          · refine HoldStep.val (by decide) fun a wx γ hn hr Ss hH K hK => ?_
            have e180 : a.eval (.tmp 180) = .agg #[.int .i64 c1, .int .i64 k1, .int .i64 h1, .int .u64 n1] := hn 9 (by decide) 180 rfl
            have ef : a.eval (.func 23) = .func (.func 23) #[] #[] := rfl
            exact hold_call (by clear hn hr hK hH; generalize a.eval = ρ at *; simp [execOp, e180, cf23, ef, go_sem]) ((ref7_h c1 k1 h1 n1 wx).mono fun e w2 h => by obtain ⟨x, h1, h2⟩ := h; exact ⟨x, h1, h2 _⟩) hH hK
          refine StepAll.cons ?_ ?_
          · refine HoldStep.val (by decide) fun a wx γ hn hr Ss hH K hK => ?_
            have e17 : a.eval (.tmp 17) = .pointer (some ⟨kb, 0, none⟩) := (hr 17 (by decide)).trans rfl
            have hB := Hd.rear hH
            have kB0 := (cell_of_heap (Hd.nthk 0 hB rfl) 0).trans (show _ = some (.int .i64 c1) from rfl)
            have kB1 := (cell_of_heap (Hd.nthk 0 hB rfl) 1).trans (show _ = some (.int .i64 k1) from rfl)
            have kB2 := (cell_of_heap (Hd.nthk 0 hB rfl) 2).trans (show _ = some (.int .i64 h1) from rfl)
            have kB3 := (cell_of_heap (Hd.nthk 0 hB rfl) 3).trans (show _ = some (.int .u64 n1) from rfl)
            exact hold_run (v := .agg #[.int .i64 c1, .int .i64 k1, .int .i64 h1, .int .u64 n1]) (by clear hn hr hK; generalize a.eval = ρ at *; simp [execOp, e17, kB0, kB1, kB2, kB3, go_sem]) rfl rfl hH hK
          refine StepAll.cons ?_ ?_
          · refine HoldStep.val (by decide) fun a wx γ hn hr Ss hH K hK => ?_
            have e181 : a.eval (.tmp 181) = .agg #[.int .i64 c1, .int .i64 k1, .int .i64 h1, .int .u64 n1] := hn 10 (by decide) 181 rfl
            have e182 : a.eval (.tmp 182) = .agg #[.int .i64 c1, .int .i64 k1, .int .i64 h1, .int .u64 n1] := hn 11 (by decide) 182 rfl
            exact hold_run (v := .bool false) (by clear hn hr hK; generalize a.eval = ρ at *; simp [execOp, e181, e182, go_sem]) rfl rfl hH hK
          refine StepAll.cons ?_ ?_
          · refine HoldStep.val (by decide) fun a wx γ hn hr Ss hH K hK => ?_
            have e179 : a.eval (.tmp 179) = .bool false := hn 8 (by decide) 179 rfl
            have e183 : a.eval (.tmp 183) = .bool false := hn 12 (by decide) 183 rfl
            exact hold_run (v := .bool false) (by clear hn hr hK; generalize a.eval = ρ at *; simp [execOp, e179, e183, go_sem]) rfl rfl hH hK
          exact trivial
        intro f w9 g9 hv h9
        have er184 : f 184 = .bool false := hv 13 184 rfl
        have hd : Hd W w9 ([] ++ [Blk (kb) (.cells #[.int .i64 c1, .int .i64 k1, .int .i64 h1, .int .u64 n1] 31 (0, 0)), RSto b' L1 1000, Blk (ka) (.cells #[.int .i64 c1, .int .i64 k1, .int .i64 h1, .int .u64 n1] 25 (0, 0)), Sto b L1 1000, Blk (w2.heap.size) (.cells #[.int .i64 ck, .int .i64 k, .int .i64 h, .int .u64 n] 31 (0, 0)), Blk (W.heap.size) (.cells #[.int .i64 ck, .int .i64 k, .int .i64 h, .int .u64 n] 25 (0, 0))]) := h9
        simp only [List.nil_append] at hd
        clear hv h9  cf23
        clear g9
        simp only [patchG, Nat.reduceAdd, Nat.reduceLeDiff, decide_true, decide_false, Bool.and_true, Bool.and_false, cond_true, cond_false, er184]
        clear er184
        clear H
        have H := hid hd
        clear hd
        by_cases he : e1 = 0
        · have de : decide (e1 = 0) = true := by simpa using he
          have de2 : (e1 == 0) = true := by simpa using he
          clear he
          have hk := Hd.nthk 2 H.out rfl
          have aa0 := (cell_of_heap hk 0).trans (show _ = some (.int .i64 c1) from rfl)
          have aa1 := (cell_of_heap hk 1).trans (show _ = some (.int .i64 k1) from rfl)
          have aa2 := (cell_of_heap hk 2).trans (show _ = some (.int .i64 h1) from rfl)
          have aa3 := (cell_of_heap hk 3).trans (show _ = some (.int .u64 n1) from rfl)
          have aas := (Array.getElem?_eq_some_iff.1 hk).1
          clear hk
          have hk := Hd.nthk 0 H.out rfl
          have bb0 := (cell_of_heap hk 0).trans (show _ = some (.int .i64 c1) from rfl)
          have bb1 := (cell_of_heap hk 1).trans (show _ = some (.int .i64 k1) from rfl)
          have bb2 := (cell_of_heap hk 2).trans (show _ = some (.int .i64 h1) from rfl)
          have bb3 := (cell_of_heap hk 3).trans (show _ = some (.int .u64 n1) from rfl)
          have bbs := (Array.getElem?_eq_some_iff.1 hk).1
          clear hk
          have hk := Hd.nthk 5 H.out rfl
          have y0 := (cell_of_heap hk 0).trans (show _ = some (.int .i64 ck) from rfl)
          have y1 := (cell_of_heap hk 1).trans (show _ = some (.int .i64 k) from rfl)
          have y2 := (cell_of_heap hk 2).trans (show _ = some (.int .i64 h) from rfl)
          have y3 := (cell_of_heap hk 3).trans (show _ = some (.int .u64 n) from rfl)
          have ys := (Array.getElem?_eq_some_iff.1 hk).1
          have yf := frozen_of_heap hk
          clear hk
          have hk := Hd.nthk 4 H.out rfl
          have z0 := (cell_of_heap hk 0).trans (show _ = some (.int .i64 ck) from rfl)
          have z1 := (cell_of_heap hk 1).trans (show _ = some (.int .i64 k) from rfl)
          have z2 := (cell_of_heap hk 2).trans (show _ = some (.int .i64 h) from rfl)
          have z3 := (cell_of_heap hk 3).trans (show _ = some (.int .u64 n) from rfl)
          have zs := (Array.getElem?_eq_some_iff.1 hk).1
          have zf := frozen_of_heap hk
          clear hk
          have zBY := blks_ne7 (((H.out.front 5 rfl).front 1 rfl))
          have zBZ := blks_ne7 (((H.out.front 4 rfl).front 1 rfl))
          have zAY := blks_ne7 (((H.out.front 5 rfl).front 3 rfl))
          have zZY := blks_ne7 (((H.out.front 5 rfl).front 5 rfl))
          go_wp2_with fail
          go_roundw
          case rel => exact ⟨j + 1, by omega, by go_num, L1, c1, k1, h1, n1, HF, hid (Hd.dropEnd7 (Rs := [Sto b L1 1000, RSto b' L1 1000, RBox w2.heap.size c1 k1 h1 n1, SBox W.heap.size c1 k1 h1 n1]) ((((((((((((H.out.front 5 rfl).set 0 (.int .i64 c1)).set 1 (.int .i64 k1)).set 2 (.int .i64 h1)).set 3 (.int .u64 n1)).front 5 rfl).set 0 (.int .i64 c1)).set 1 (.int .i64 k1)).set 2 (.int .i64 h1)).set 3 (.int .u64 n1)).front 3 rfl).front 5 rfl))⟩
          case measure => simp [intOf]; omega
        · have de : decide (e1 = 0) = false := by simpa using he
          have de2 : (e1 == 0) = false := by simpa using he
          clear he
          go_wp2_with fail
          go_roundw
          case rel => exact ⟨j + 1, by omega, by go_num, L1, ck, k, h, n, HN, hid (Hd.dropEnd7 (Rs := [Sto b L1 1000, RSto b' L1 1000, RBox w2.heap.size ck k h n, SBox W.heap.size ck k h n]) ((((H.out.front 5 rfl).front 5 rfl).front 3 rfl).front 5 rfl))⟩
          case measure => simp [intOf]; omega
      · rw [hu] at h7
        clear hu
        obtain ⟨⟨⟨c1, k1, h1, n1⟩, e1, L1⟩, hR⟩ : ∃ r, sHash 1000 L ⟨ck, k, h, n⟩ v = r := ⟨_, rfl⟩
        have HF := hid (sHash_fits 1000 L (y := ⟨ck, k, h, n⟩) v HN.out)
        rw [hR] at HF
        have HR := hid hR
        clear hR
        have H9 := hid (H.out.front 2 rfl)
        clear H
        have H := H9
        clear H9
        have hk := Hd.nthk 5 H.out rfl
        have y0 := (cell_of_heap hk 0).trans (show _ = some (.int .i64 ck) from rfl)
        have y1 := (cell_of_heap hk 1).trans (show _ = some (.int .i64 k) from rfl)
        have y2 := (cell_of_heap hk 2).trans (show _ = some (.int .i64 h) from rfl)
        have y3 := (cell_of_heap hk 3).trans (show _ = some (.int .u64 n) from rfl)
        have ys := (Array.getElem?_eq_some_iff.1 hk).1
        clear hk
        go_wp2_with fail
        refine (shash_calls ck k h n v H.out).mono ?_
        rw [HR.out]
        dsimp only
        rintro e w6 ⟨rfl, hd⟩
        clear y0 y1 y2 y3 ys H c0
        have H := hid hd
        clear hd
        have hk := Hd.nthk 1 H.out rfl
        have aa0 := (cell_of_heap hk 0).trans (show _ = some (.int .i64 ck) from rfl)
        have aa1 := (cell_of_heap hk 1).trans (show _ = some (.int .i64 k) from rfl)
        have aa2 := (cell_of_heap hk 2).trans (show _ = some (.int .i64 h) from rfl)
        have aa3 := (cell_of_heap hk 3).trans (show _ = some (.int .u64 n) from rfl)
        have aas := (Array.getElem?_eq_some_iff.1 hk).1
        have aaf := frozen_of_heap hk
        clear hk
        have hk := Hd.nthk 4 H.out rfl
        have z0 := (cell_of_heap hk 0).trans (show _ = some (.int .i64 ck) from rfl)
        have z1 := (cell_of_heap hk 1).trans (show _ = some (.int .i64 k) from rfl)
        have z2 := (cell_of_heap hk 2).trans (show _ = some (.int .i64 h) from rfl)
        have z3 := (cell_of_heap hk 3).trans (show _ = some (.int .u64 n) from rfl)
        have zs := (Array.getElem?_eq_some_iff.1 hk).1
        clear hk
        have zaz := blks_ne7 (((H.out.front 4 rfl).front 2 rfl))
        have zza : ¬ (w2.heap.size = ka) := fun e => zaz e.symm
        go_wp2_with fail
        have H9 := hid ((((((H.out.front 1 rfl).set 0 (.int .i64 c1)).set 1 (.int .i64 k1)).set 2 (.int .i64 h1)).set 3 (.int .u64 n1)))
        clear aa0 aa1 aa2 aa3 aas aaf z0 z1 z2 z3 zs H
        have H := H9
        clear H9
        clear zaz zza
        have H9 := hid (H.out.front 3 rfl)
        clear H
        have H := H9
        clear H9
        refine (rshash_calls ck k h n v H.out).mono ?_
        rw [HR.out]
        dsimp only
        rintro e w8 ⟨rfl, hd⟩
        clear H
        have H := hid hd
        clear hd
        have hk := Hd.nthk 3 H.out rfl
        have bb0 := (cell_of_heap hk 0).trans (show _ = some (.int .i64 ck) from rfl)
        have bb1 := (cell_of_heap hk 1).trans (show _ = some (.int .i64 k) from rfl)
        have bb2 := (cell_of_heap hk 2).trans (show _ = some (.int .i64 h) from rfl)
        have bb3 := (cell_of_heap hk 3).trans (show _ = some (.int .u64 n) from rfl)
        have bbs := (Array.getElem?_eq_some_iff.1 hk).1
        have bbf := frozen_of_heap hk
        clear hk
        go_wp2_with fail
        have H9 := hid ((((((H.out.front 3 rfl).set 0 (.int .i64 c1)).set 1 (.int .i64 k1)).set 2 (.int .i64 h1)).set 3 (.int .u64 n1)))
        clear bb0 bb1 bb2 bb3 bbs bbf H
        have H := H9
        clear H9
        have cf23 : ∀ args w, (callFunc 23 args).run Try.prog w = .ok (.enter 23 args) w := fun args w => by kernel_rfl
        refine wp_region_hold [[], [], [0, 1], [2], [3], [3], [3, 4, 5], [3, 6], [7], [8], [8, 9], [8], [8, 10, 11], [8, 12]] [[], [], [], [], [], [], [], [], [], [], [], [], [], []] ([some 171, some 172, some 173, some 174, some 175, some 176, some 177, some 178, some 179, some 180, some 181, some 182, some 183, some 184] : List (Option Nat)) ([none, none, none, none, none, none, none, none, none, none, none, none, none, none] : List (Option Nat)) (
            (fun _ => .int .i64 e1) ::
            (fun _ => .int .i64 e1) ::
            (fun _ => .bool false) ::
            (fun _ => .bool false) ::
            (fun _ => .int .i64 0) ::
            (fun _ => .int .i64 0) ::
            (fun _ => .bool false) ::
            (fun _ => .bool false) ::
            (fun _ => .bool false) ::
            (fun _ => .agg #[.int .i64 c1, .int .i64 k1, .int .i64 h1, .int .u64 n1]) ::
            (fun _ => .agg #[.int .i64 c1, .int .i64 k1, .int .i64 h1, .int .u64 n1]) ::
            (fun _ => .agg #[.int .i64 c1, .int .i64 k1, .int .i64 h1, .int .u64 n1]) ::
            (fun _ => .bool false) ::
            (fun _ => .bool false) :: []) ((fun _ => []) :: (fun _ => []) :: (fun _ => []) :: (fun _ => []) :: (fun _ => []) :: (fun _ => []) :: (fun _ => []) :: (fun _ => []) :: (fun _ => []) :: (fun _ => []) :: (fun _ => []) :: (fun _ => []) :: (fun _ => []) :: (fun _ => []) :: ([] : List (List Gh → List Res))) ((fun _ => []) :: (fun _ => []) :: (fun _ => []) :: (fun _ => []) :: (fun _ => []) :: (fun _ => []) :: (fun _ => []) :: (fun _ => []) :: (fun _ => []) :: (fun _ => []) :: (fun _ => []) :: (fun _ => []) :: (fun _ => []) :: (fun _ => []) :: ([] : List (List Gh → List Res))) (by kernel_rfl) (by kernel_rfl) rfl (hold_lt (n := 196) (by decide)) H.out (hold_nil (fs := []) (by decide) rfl ?_) (hold_fit (by decide)) ?_ ?_ (fun t => decide (171 ≤ t) && decide (t ≤ 184)) (by decide) ?_
        · intro s gs hs
          cases hs
        · repeat (refine StepAll.cons (by first | exact trivial | exact fun g => rfl) ?_)
          exact trivial
        ·
          refine StepAll.cons ?_ ?_
          · refine HoldStep.val (by decide) fun a wx γ hn hr Ss hH K hK => ?_
            have e12 : a.eval (.tmp 12) = .int .i64 e1 := (hr 12 (by decide)).trans rfl
            exact hold_run (v := .int .i64 e1) (by clear hn hr hK; generalize a.eval = ρ at *; simp [execOp, e12, go_sem]) rfl rfl hH hK
          refine StepAll.cons ?_ ?_
          · refine HoldStep.val (by decide) fun a wx γ hn hr Ss hH K hK => ?_
            have e13 : a.eval (.tmp 13) = .int .i64 e1 := (hr 13 (by decide)).trans rfl
            exact hold_run (v := .int .i64 e1) (by clear hn hr hK; generalize a.eval = ρ at *; simp [execOp, e13, go_sem]) rfl rfl hH hK
          refine StepAll.cons ?_ ?_
          · refine HoldStep.val (by decide) fun a wx γ hn hr Ss hH K hK => ?_
            have e171 : a.eval (.tmp 171) = .int .i64 e1 := hn 0 (by decide) 171 rfl
            have e172 : a.eval (.tmp 172) = .int .i64 e1 := hn 1 (by decide) 172 rfl
            exact hold_run (v := .bool false) (by clear hn hr hK; generalize a.eval = ρ at *; simp [execOp, e171, e172, go_sem]) rfl rfl hH hK
          refine StepAll.cons ?_ ?_
          · refine HoldStep.val (by decide) fun a wx γ hn hr Ss hH K hK => ?_
            have e173 : a.eval (.tmp 173) = .bool false := hn 2 (by decide) 173 rfl
            exact hold_run (v := .bool false) (by clear hn hr hK; generalize a.eval = ρ at *; simp [execOp, e173, go_sem]) rfl rfl hH hK
          refine StepAll.cons ?_ ?_
          · refine HoldStep.val (by decide) fun a wx γ hn hr Ss hH K hK => ?_
            have e14 : a.eval (.tmp 14) = .int .i64 0 := (hr 14 (by decide)).trans rfl
            exact hold_run (v := .int .i64 0) (by clear hn hr hK; generalize a.eval = ρ at *; simp [execOp, e14, go_sem]) rfl rfl hH hK
          refine StepAll.cons ?_ ?_
          · refine HoldStep.val (by decide) fun a wx γ hn hr Ss hH K hK => ?_
            have e15 : a.eval (.tmp 15) = .int .i64 0 := (hr 15 (by decide)).trans rfl
            exact hold_run (v := .int .i64 0) (by clear hn hr hK; generalize a.eval = ρ at *; simp [execOp, e15, go_sem]) rfl rfl hH hK
          refine StepAll.cons ?_ ?_
          · refine HoldStep.val (by decide) fun a wx γ hn hr Ss hH K hK => ?_
            have e175 : a.eval (.tmp 175) = .int .i64 0 := hn 4 (by decide) 175 rfl
            have e176 : a.eval (.tmp 176) = .int .i64 0 := hn 5 (by decide) 176 rfl
            exact hold_run (v := .bool false) (by clear hn hr hK; generalize a.eval = ρ at *; simp [execOp, e175, e176, go_sem]) rfl rfl hH hK
          refine StepAll.cons ?_ ?_
          · refine HoldStep.val (by decide) fun a wx γ hn hr Ss hH K hK => ?_
            have e174 : a.eval (.tmp 174) = .bool false := hn 3 (by decide) 174 rfl
            have e177 : a.eval (.tmp 177) = .bool false := hn 6 (by decide) 177 rfl
            exact hold_run (v := .bool false) (by clear hn hr hK; generalize a.eval = ρ at *; simp [execOp, e174, e177, go_sem]) rfl rfl hH hK
          refine StepAll.cons ?_ ?_
          · refine HoldStep.val (by decide) fun a wx γ hn hr Ss hH K hK => ?_
            have e178 : a.eval (.tmp 178) = .bool false := hn 7 (by decide) 178 rfl
            exact hold_run (v := .bool false) (by clear hn hr hK; generalize a.eval = ρ at *; simp [execOp, e178, go_sem]) rfl rfl hH hK
          refine StepAll.cons ?_ ?_
          · refine HoldStep.val (by decide) fun a wx γ hn hr Ss hH K hK => ?_
            have e16 : a.eval (.tmp 16) = .pointer (some ⟨ka, 0, none⟩) := (hr 16 (by decide)).trans rfl
            have hB := Hd.rear hH
            have kA0 := (cell_of_heap (Hd.nthk 2 hB rfl) 0).trans (show _ = some (.int .i64 c1) from rfl)
            have kA1 := (cell_of_heap (Hd.nthk 2 hB rfl) 1).trans (show _ = some (.int .i64 k1) from rfl)
            have kA2 := (cell_of_heap (Hd.nthk 2 hB rfl) 2).trans (show _ = some (.int .i64 h1) from rfl)
            have kA3 := (cell_of_heap (Hd.nthk 2 hB rfl) 3).trans (show _ = some (.int .u64 n1) from rfl)
            exact hold_run (v := .agg #[.int .i64 c1, .int .i64 k1, .int .i64 h1, .int .u64 n1]) (by clear hn hr hK; generalize a.eval = ρ at *; simp [execOp, e16, kA0, kA1, kA2, kA3, go_sem]) rfl rfl hH hK
          refine StepAll.cons ?_ ?_
          · refine HoldStep.val (by decide) fun a wx γ hn hr Ss hH K hK => ?_
            have e180 : a.eval (.tmp 180) = .agg #[.int .i64 c1, .int .i64 k1, .int .i64 h1, .int .u64 n1] := hn 9 (by decide) 180 rfl
            have ef : a.eval (.func 23) = .func (.func 23) #[] #[] := rfl
            exact hold_call (by clear hn hr hK hH; generalize a.eval = ρ at *; simp [execOp, e180, cf23, ef, go_sem]) ((ref7_h c1 k1 h1 n1 wx).mono fun e w2 h => by obtain ⟨x, h1, h2⟩ := h; exact ⟨x, h1, h2 _⟩) hH hK
          refine StepAll.cons ?_ ?_
          · refine HoldStep.val (by decide) fun a wx γ hn hr Ss hH K hK => ?_
            have e17 : a.eval (.tmp 17) = .pointer (some ⟨kb, 0, none⟩) := (hr 17 (by decide)).trans rfl
            have hB := Hd.rear hH
            have kB0 := (cell_of_heap (Hd.nthk 0 hB rfl) 0).trans (show _ = some (.int .i64 c1) from rfl)
            have kB1 := (cell_of_heap (Hd.nthk 0 hB rfl) 1).trans (show _ = some (.int .i64 k1) from rfl)
            have kB2 := (cell_of_heap (Hd.nthk 0 hB rfl) 2).trans (show _ = some (.int .i64 h1) from rfl)
            have kB3 := (cell_of_heap (Hd.nthk 0 hB rfl) 3).trans (show _ = some (.int .u64 n1) from rfl)
            exact hold_run (v := .agg #[.int .i64 c1, .int .i64 k1, .int .i64 h1, .int .u64 n1]) (by clear hn hr hK; generalize a.eval = ρ at *; simp [execOp, e17, kB0, kB1, kB2, kB3, go_sem]) rfl rfl hH hK
          refine StepAll.cons ?_ ?_
          · refine HoldStep.val (by decide) fun a wx γ hn hr Ss hH K hK => ?_
            have e181 : a.eval (.tmp 181) = .agg #[.int .i64 c1, .int .i64 k1, .int .i64 h1, .int .u64 n1] := hn 10 (by decide) 181 rfl
            have e182 : a.eval (.tmp 182) = .agg #[.int .i64 c1, .int .i64 k1, .int .i64 h1, .int .u64 n1] := hn 11 (by decide) 182 rfl
            exact hold_run (v := .bool false) (by clear hn hr hK; generalize a.eval = ρ at *; simp [execOp, e181, e182, go_sem]) rfl rfl hH hK
          refine StepAll.cons ?_ ?_
          · refine HoldStep.val (by decide) fun a wx γ hn hr Ss hH K hK => ?_
            have e179 : a.eval (.tmp 179) = .bool false := hn 8 (by decide) 179 rfl
            have e183 : a.eval (.tmp 183) = .bool false := hn 12 (by decide) 183 rfl
            exact hold_run (v := .bool false) (by clear hn hr hK; generalize a.eval = ρ at *; simp [execOp, e179, e183, go_sem]) rfl rfl hH hK
          exact trivial
        intro f w9 g9 hv h9
        have er184 : f 184 = .bool false := hv 13 184 rfl
        have hd : Hd W w9 ([] ++ [Blk (kb) (.cells #[.int .i64 c1, .int .i64 k1, .int .i64 h1, .int .u64 n1] 31 (0, 0)), RSto b' L1 1000, Blk (ka) (.cells #[.int .i64 c1, .int .i64 k1, .int .i64 h1, .int .u64 n1] 25 (0, 0)), Sto b L1 1000, Blk (w2.heap.size) (.cells #[.int .i64 ck, .int .i64 k, .int .i64 h, .int .u64 n] 31 (0, 0)), Blk (W.heap.size) (.cells #[.int .i64 ck, .int .i64 k, .int .i64 h, .int .u64 n] 25 (0, 0))]) := h9
        simp only [List.nil_append] at hd
        clear hv h9  cf23
        clear g9
        simp only [patchG, Nat.reduceAdd, Nat.reduceLeDiff, decide_true, decide_false, Bool.and_true, Bool.and_false, cond_true, cond_false, er184]
        clear er184
        clear H
        have H := hid hd
        clear hd
        by_cases he : e1 = 0
        · have de : decide (e1 = 0) = true := by simpa using he
          have de2 : (e1 == 0) = true := by simpa using he
          clear he
          have hk := Hd.nthk 2 H.out rfl
          have aa0 := (cell_of_heap hk 0).trans (show _ = some (.int .i64 c1) from rfl)
          have aa1 := (cell_of_heap hk 1).trans (show _ = some (.int .i64 k1) from rfl)
          have aa2 := (cell_of_heap hk 2).trans (show _ = some (.int .i64 h1) from rfl)
          have aa3 := (cell_of_heap hk 3).trans (show _ = some (.int .u64 n1) from rfl)
          have aas := (Array.getElem?_eq_some_iff.1 hk).1
          clear hk
          have hk := Hd.nthk 0 H.out rfl
          have bb0 := (cell_of_heap hk 0).trans (show _ = some (.int .i64 c1) from rfl)
          have bb1 := (cell_of_heap hk 1).trans (show _ = some (.int .i64 k1) from rfl)
          have bb2 := (cell_of_heap hk 2).trans (show _ = some (.int .i64 h1) from rfl)
          have bb3 := (cell_of_heap hk 3).trans (show _ = some (.int .u64 n1) from rfl)
          have bbs := (Array.getElem?_eq_some_iff.1 hk).1
          clear hk
          have hk := Hd.nthk 5 H.out rfl
          have y0 := (cell_of_heap hk 0).trans (show _ = some (.int .i64 ck) from rfl)
          have y1 := (cell_of_heap hk 1).trans (show _ = some (.int .i64 k) from rfl)
          have y2 := (cell_of_heap hk 2).trans (show _ = some (.int .i64 h) from rfl)
          have y3 := (cell_of_heap hk 3).trans (show _ = some (.int .u64 n) from rfl)
          have ys := (Array.getElem?_eq_some_iff.1 hk).1
          have yf := frozen_of_heap hk
          clear hk
          have hk := Hd.nthk 4 H.out rfl
          have z0 := (cell_of_heap hk 0).trans (show _ = some (.int .i64 ck) from rfl)
          have z1 := (cell_of_heap hk 1).trans (show _ = some (.int .i64 k) from rfl)
          have z2 := (cell_of_heap hk 2).trans (show _ = some (.int .i64 h) from rfl)
          have z3 := (cell_of_heap hk 3).trans (show _ = some (.int .u64 n) from rfl)
          have zs := (Array.getElem?_eq_some_iff.1 hk).1
          have zf := frozen_of_heap hk
          clear hk
          have zBY := blks_ne7 (((H.out.front 5 rfl).front 1 rfl))
          have zBZ := blks_ne7 (((H.out.front 4 rfl).front 1 rfl))
          have zAY := blks_ne7 (((H.out.front 5 rfl).front 3 rfl))
          have zZY := blks_ne7 (((H.out.front 5 rfl).front 5 rfl))
          go_wp2_with fail
          go_roundw
          case rel => exact ⟨j + 1, by omega, by go_num, L1, c1, k1, h1, n1, HF, hid (Hd.dropEnd7 (Rs := [Sto b L1 1000, RSto b' L1 1000, RBox w2.heap.size c1 k1 h1 n1, SBox W.heap.size c1 k1 h1 n1]) ((((((((((((H.out.front 5 rfl).set 0 (.int .i64 c1)).set 1 (.int .i64 k1)).set 2 (.int .i64 h1)).set 3 (.int .u64 n1)).front 5 rfl).set 0 (.int .i64 c1)).set 1 (.int .i64 k1)).set 2 (.int .i64 h1)).set 3 (.int .u64 n1)).front 3 rfl).front 5 rfl))⟩
          case measure => simp [intOf]; omega
        · have de : decide (e1 = 0) = false := by simpa using he
          have de2 : (e1 == 0) = false := by simpa using he
          clear he
          go_wp2_with fail
          go_roundw
          case rel => exact ⟨j + 1, by omega, by go_num, L1, ck, k, h, n, HN, hid (Hd.dropEnd7 (Rs := [Sto b L1 1000, RSto b' L1 1000, RBox w2.heap.size ck k h n, SBox W.heap.size ck k h n]) ((((H.out.front 5 rfl).front 5 rfl).front 3 rfl).front 5 rfl))⟩
          case measure => simp [intOf]; omega
      · rw [hu] at h7
        clear hu
        obtain ⟨⟨⟨c1, k1, h1, n1⟩, e1, L1⟩, hR⟩ : ∃ r, sHash 1000 L ⟨ck, k, h, n⟩ v = r := ⟨_, rfl⟩
        have HF := hid (sHash_fits 1000 L (y := ⟨ck, k, h, n⟩) v HN.out)
        rw [hR] at HF
        have HR := hid hR
        clear hR
        have H9 := hid (H.out.front 2 rfl)
        clear H
        have H := H9
        clear H9
        have hk := Hd.nthk 5 H.out rfl
        have y0 := (cell_of_heap hk 0).trans (show _ = some (.int .i64 ck) from rfl)
        have y1 := (cell_of_heap hk 1).trans (show _ = some (.int .i64 k) from rfl)
        have y2 := (cell_of_heap hk 2).trans (show _ = some (.int .i64 h) from rfl)
        have y3 := (cell_of_heap hk 3).trans (show _ = some (.int .u64 n) from rfl)
        have ys := (Array.getElem?_eq_some_iff.1 hk).1
        clear hk
        go_wp2_with fail
        refine (shash_calls ck k h n v H.out).mono ?_
        rw [HR.out]
        dsimp only
        rintro e w6 ⟨rfl, hd⟩
        clear y0 y1 y2 y3 ys H c0
        have H := hid hd
        clear hd
        have hk := Hd.nthk 1 H.out rfl
        have aa0 := (cell_of_heap hk 0).trans (show _ = some (.int .i64 ck) from rfl)
        have aa1 := (cell_of_heap hk 1).trans (show _ = some (.int .i64 k) from rfl)
        have aa2 := (cell_of_heap hk 2).trans (show _ = some (.int .i64 h) from rfl)
        have aa3 := (cell_of_heap hk 3).trans (show _ = some (.int .u64 n) from rfl)
        have aas := (Array.getElem?_eq_some_iff.1 hk).1
        have aaf := frozen_of_heap hk
        clear hk
        have hk := Hd.nthk 4 H.out rfl
        have z0 := (cell_of_heap hk 0).trans (show _ = some (.int .i64 ck) from rfl)
        have z1 := (cell_of_heap hk 1).trans (show _ = some (.int .i64 k) from rfl)
        have z2 := (cell_of_heap hk 2).trans (show _ = some (.int .i64 h) from rfl)
        have z3 := (cell_of_heap hk 3).trans (show _ = some (.int .u64 n) from rfl)
        have zs := (Array.getElem?_eq_some_iff.1 hk).1
        clear hk
        have zaz := blks_ne7 (((H.out.front 4 rfl).front 2 rfl))
        have zza : ¬ (w2.heap.size = ka) := fun e => zaz e.symm
        go_wp2_with fail
        have H9 := hid ((((((H.out.front 1 rfl).set 0 (.int .i64 c1)).set 1 (.int .i64 k1)).set 2 (.int .i64 h1)).set 3 (.int .u64 n1)))
        clear aa0 aa1 aa2 aa3 aas aaf z0 z1 z2 z3 zs H
        have H := H9
        clear H9
        clear zaz zza
        have H9 := hid (H.out.front 3 rfl)
        clear H
        have H := H9
        clear H9
        refine (rshash_calls ck k h n v H.out).mono ?_
        rw [HR.out]
        dsimp only
        rintro e w8 ⟨rfl, hd⟩
        clear H
        have H := hid hd
        clear hd
        have hk := Hd.nthk 3 H.out rfl
        have bb0 := (cell_of_heap hk 0).trans (show _ = some (.int .i64 ck) from rfl)
        have bb1 := (cell_of_heap hk 1).trans (show _ = some (.int .i64 k) from rfl)
        have bb2 := (cell_of_heap hk 2).trans (show _ = some (.int .i64 h) from rfl)
        have bb3 := (cell_of_heap hk 3).trans (show _ = some (.int .u64 n) from rfl)
        have bbs := (Array.getElem?_eq_some_iff.1 hk).1
        have bbf := frozen_of_heap hk
        clear hk
        go_wp2_with fail
        have H9 := hid ((((((H.out.front 3 rfl).set 0 (.int .i64 c1)).set 1 (.int .i64 k1)).set 2 (.int .i64 h1)).set 3 (.int .u64 n1)))
        clear bb0 bb1 bb2 bb3 bbs bbf H
        have H := H9
        clear H9
        have cf23 : ∀ args w, (callFunc 23 args).run Try.prog w = .ok (.enter 23 args) w := fun args w => by kernel_rfl
        refine wp_region_hold [[], [], [0, 1], [2], [3], [3], [3, 4, 5], [3, 6], [7], [8], [8, 9], [8], [8, 10, 11], [8, 12]] [[], [], [], [], [], [], [], [], [], [], [], [], [], []] ([some 171, some 172, some 173, some 174, some 175, some 176, some 177, some 178, some 179, some 180, some 181, some 182, some 183, some 184] : List (Option Nat)) ([none, none, none, none, none, none, none, none, none, none, none, none, none, none] : List (Option Nat)) (
            (fun _ => .int .i64 e1) ::
            (fun _ => .int .i64 e1) ::
            (fun _ => .bool false) ::
            (fun _ => .bool false) ::
            (fun _ => .int .i64 0) ::
            (fun _ => .int .i64 0) ::
            (fun _ => .bool false) ::
            (fun _ => .bool false) ::
            (fun _ => .bool false) ::
            (fun _ => .agg #[.int .i64 c1, .int .i64 k1, .int .i64 h1, .int .u64 n1]) ::
            (fun _ => .agg #[.int .i64 c1, .int .i64 k1, .int .i64 h1, .int .u64 n1]) ::
            (fun _ => .agg #[.int .i64 c1, .int .i64 k1, .int .i64 h1, .int .u64 n1]) ::
            (fun _ => .bool false) ::
            (fun _ => .bool false) :: []) ((fun _ => []) :: (fun _ => []) :: (fun _ => []) :: (fun _ => []) :: (fun _ => []) :: (fun _ => []) :: (fun _ => []) :: (fun _ => []) :: (fun _ => []) :: (fun _ => []) :: (fun _ => []) :: (fun _ => []) :: (fun _ => []) :: (fun _ => []) :: ([] : List (List Gh → List Res))) ((fun _ => []) :: (fun _ => []) :: (fun _ => []) :: (fun _ => []) :: (fun _ => []) :: (fun _ => []) :: (fun _ => []) :: (fun _ => []) :: (fun _ => []) :: (fun _ => []) :: (fun _ => []) :: (fun _ => []) :: (fun _ => []) :: (fun _ => []) :: ([] : List (List Gh → List Res))) (by kernel_rfl) (by kernel_rfl) rfl (hold_lt (n := 196) (by decide)) H.out (hold_nil (fs := []) (by decide) rfl ?_) (hold_fit (by decide)) ?_ ?_ (fun t => decide (171 ≤ t) && decide (t ≤ 184)) (by decide) ?_
        · intro s gs hs
          cases hs
        · repeat (refine StepAll.cons (by first | exact trivial | exact fun g => rfl) ?_)
          exact trivial
        ·
          refine StepAll.cons ?_ ?_
          · refine HoldStep.val (by decide) fun a wx γ hn hr Ss hH K hK => ?_
            have e12 : a.eval (.tmp 12) = .int .i64 e1 := (hr 12 (by decide)).trans rfl
            exact hold_run (v := .int .i64 e1) (by clear hn hr hK; generalize a.eval = ρ at *; simp [execOp, e12, go_sem]) rfl rfl hH hK
          refine StepAll.cons ?_ ?_
          · refine HoldStep.val (by decide) fun a wx γ hn hr Ss hH K hK => ?_
            have e13 : a.eval (.tmp 13) = .int .i64 e1 := (hr 13 (by decide)).trans rfl
            exact hold_run (v := .int .i64 e1) (by clear hn hr hK; generalize a.eval = ρ at *; simp [execOp, e13, go_sem]) rfl rfl hH hK
          refine StepAll.cons ?_ ?_
          · refine HoldStep.val (by decide) fun a wx γ hn hr Ss hH K hK => ?_
            have e171 : a.eval (.tmp 171) = .int .i64 e1 := hn 0 (by decide) 171 rfl
            have e172 : a.eval (.tmp 172) = .int .i64 e1 := hn 1 (by decide) 172 rfl
            exact hold_run (v := .bool false) (by clear hn hr hK; generalize a.eval = ρ at *; simp [execOp, e171, e172, go_sem]) rfl rfl hH hK
          refine StepAll.cons ?_ ?_
          · refine HoldStep.val (by decide) fun a wx γ hn hr Ss hH K hK => ?_
            have e173 : a.eval (.tmp 173) = .bool false := hn 2 (by decide) 173 rfl
            exact hold_run (v := .bool false) (by clear hn hr hK; generalize a.eval = ρ at *; simp [execOp, e173, go_sem]) rfl rfl hH hK
          refine StepAll.cons ?_ ?_
          · refine HoldStep.val (by decide) fun a wx γ hn hr Ss hH K hK => ?_
            have e14 : a.eval (.tmp 14) = .int .i64 0 := (hr 14 (by decide)).trans rfl
            exact hold_run (v := .int .i64 0) (by clear hn hr hK; generalize a.eval = ρ at *; simp [execOp, e14, go_sem]) rfl rfl hH hK
          refine StepAll.cons ?_ ?_
          · refine HoldStep.val (by decide) fun a wx γ hn hr Ss hH K hK => ?_
            have e15 : a.eval (.tmp 15) = .int .i64 0 := (hr 15 (by decide)).trans rfl
            exact hold_run (v := .int .i64 0) (by clear hn hr hK; generalize a.eval = ρ at *; simp [execOp, e15, go_sem]) rfl rfl hH hK
          refine StepAll.cons ?_ ?_
          · refine HoldStep.val (by decide) fun a wx γ hn hr Ss hH K hK => ?_
            have e175 : a.eval (.tmp 175) = .int .i64 0 := hn 4 (by decide) 175 rfl
            have e176 : a.eval (.tmp 176) = .int .i64 0 := hn 5 (by decide) 176 rfl
            exact hold_run (v := .bool false) (by clear hn hr hK; generalize a.eval = ρ at *; simp [execOp, e175, e176, go_sem]) rfl rfl hH hK
          refine StepAll.cons ?_ ?_
          · refine HoldStep.val (by decide) fun a wx γ hn hr Ss hH K hK => ?_
            have e174 : a.eval (.tmp 174) = .bool false := hn 3 (by decide) 174 rfl
            have e177 : a.eval (.tmp 177) = .bool false := hn 6 (by decide) 177 rfl
            exact hold_run (v := .bool false) (by clear hn hr hK; generalize a.eval = ρ at *; simp [execOp, e174, e177, go_sem]) rfl rfl hH hK
          refine StepAll.cons ?_ ?_
          · refine HoldStep.val (by decide) fun a wx γ hn hr Ss hH K hK => ?_
            have e178 : a.eval (.tmp 178) = .bool false := hn 7 (by decide) 178 rfl
            exact hold_run (v := .bool false) (by clear hn hr hK; generalize a.eval = ρ at *; simp [execOp, e178, go_sem]) rfl rfl hH hK
          refine StepAll.cons ?_ ?_
          · refine HoldStep.val (by decide) fun a wx γ hn hr Ss hH K hK => ?_
            have e16 : a.eval (.tmp 16) = .pointer (some ⟨ka, 0, none⟩) := (hr 16 (by decide)).trans rfl
            have hB := Hd.rear hH
            have kA0 := (cell_of_heap (Hd.nthk 2 hB rfl) 0).trans (show _ = some (.int .i64 c1) from rfl)
            have kA1 := (cell_of_heap (Hd.nthk 2 hB rfl) 1).trans (show _ = some (.int .i64 k1) from rfl)
            have kA2 := (cell_of_heap (Hd.nthk 2 hB rfl) 2).trans (show _ = some (.int .i64 h1) from rfl)
            have kA3 := (cell_of_heap (Hd.nthk 2 hB rfl) 3).trans (show _ = some (.int .u64 n1) from rfl)
            exact hold_run (v := .agg #[.int .i64 c1, .int .i64 k1, .int .i64 h1, .int .u64 n1]) (by clear hn hr hK; generalize a.eval = ρ at *; simp [execOp, e16, kA0, kA1, kA2, kA3, go_sem]) rfl rfl hH hK
          refine StepAll.cons ?_ ?_
          · refine HoldStep.val (by decide) fun a wx γ hn hr Ss hH K hK => ?_
            have e180 : a.eval (.tmp 180) = .agg #[.int .i64 c1, .int .i64 k1, .int .i64 h1, .int .u64 n1] := hn 9 (by decide) 180 rfl
            have ef : a.eval (.func 23) = .func (.func 23) #[] #[] := rfl
            exact hold_call (by clear hn hr hK hH; generalize a.eval = ρ at *; simp [execOp, e180, cf23, ef, go_sem]) ((ref7_h c1 k1 h1 n1 wx).mono fun e w2 h => by obtain ⟨x, h1, h2⟩ := h; exact ⟨x, h1, h2 _⟩) hH hK
          refine StepAll.cons ?_ ?_
          · refine HoldStep.val (by decide) fun a wx γ hn hr Ss hH K hK => ?_
            have e17 : a.eval (.tmp 17) = .pointer (some ⟨kb, 0, none⟩) := (hr 17 (by decide)).trans rfl
            have hB := Hd.rear hH
            have kB0 := (cell_of_heap (Hd.nthk 0 hB rfl) 0).trans (show _ = some (.int .i64 c1) from rfl)
            have kB1 := (cell_of_heap (Hd.nthk 0 hB rfl) 1).trans (show _ = some (.int .i64 k1) from rfl)
            have kB2 := (cell_of_heap (Hd.nthk 0 hB rfl) 2).trans (show _ = some (.int .i64 h1) from rfl)
            have kB3 := (cell_of_heap (Hd.nthk 0 hB rfl) 3).trans (show _ = some (.int .u64 n1) from rfl)
            exact hold_run (v := .agg #[.int .i64 c1, .int .i64 k1, .int .i64 h1, .int .u64 n1]) (by clear hn hr hK; generalize a.eval = ρ at *; simp [execOp, e17, kB0, kB1, kB2, kB3, go_sem]) rfl rfl hH hK
          refine StepAll.cons ?_ ?_
          · refine HoldStep.val (by decide) fun a wx γ hn hr Ss hH K hK => ?_
            have e181 : a.eval (.tmp 181) = .agg #[.int .i64 c1, .int .i64 k1, .int .i64 h1, .int .u64 n1] := hn 10 (by decide) 181 rfl
            have e182 : a.eval (.tmp 182) = .agg #[.int .i64 c1, .int .i64 k1, .int .i64 h1, .int .u64 n1] := hn 11 (by decide) 182 rfl
            exact hold_run (v := .bool false) (by clear hn hr hK; generalize a.eval = ρ at *; simp [execOp, e181, e182, go_sem]) rfl rfl hH hK
          refine StepAll.cons ?_ ?_
          · refine HoldStep.val (by decide) fun a wx γ hn hr Ss hH K hK => ?_
            have e179 : a.eval (.tmp 179) = .bool false := hn 8 (by decide) 179 rfl
            have e183 : a.eval (.tmp 183) = .bool false := hn 12 (by decide) 183 rfl
            exact hold_run (v := .bool false) (by clear hn hr hK; generalize a.eval = ρ at *; simp [execOp, e179, e183, go_sem]) rfl rfl hH hK
          exact trivial
        intro f w9 g9 hv h9
        have er184 : f 184 = .bool false := hv 13 184 rfl
        have hd : Hd W w9 ([] ++ [Blk (kb) (.cells #[.int .i64 c1, .int .i64 k1, .int .i64 h1, .int .u64 n1] 31 (0, 0)), RSto b' L1 1000, Blk (ka) (.cells #[.int .i64 c1, .int .i64 k1, .int .i64 h1, .int .u64 n1] 25 (0, 0)), Sto b L1 1000, Blk (w2.heap.size) (.cells #[.int .i64 ck, .int .i64 k, .int .i64 h, .int .u64 n] 31 (0, 0)), Blk (W.heap.size) (.cells #[.int .i64 ck, .int .i64 k, .int .i64 h, .int .u64 n] 25 (0, 0))]) := h9
        simp only [List.nil_append] at hd
        clear hv h9  cf23
        clear g9
        simp only [patchG, Nat.reduceAdd, Nat.reduceLeDiff, decide_true, decide_false, Bool.and_true, Bool.and_false, cond_true, cond_false, er184]
        clear er184
        clear H
        have H := hid hd
        clear hd
        by_cases he : e1 = 0
        · have de : decide (e1 = 0) = true := by simpa using he
          have de2 : (e1 == 0) = true := by simpa using he
          clear he
          have hk := Hd.nthk 2 H.out rfl
          have aa0 := (cell_of_heap hk 0).trans (show _ = some (.int .i64 c1) from rfl)
          have aa1 := (cell_of_heap hk 1).trans (show _ = some (.int .i64 k1) from rfl)
          have aa2 := (cell_of_heap hk 2).trans (show _ = some (.int .i64 h1) from rfl)
          have aa3 := (cell_of_heap hk 3).trans (show _ = some (.int .u64 n1) from rfl)
          have aas := (Array.getElem?_eq_some_iff.1 hk).1
          clear hk
          have hk := Hd.nthk 0 H.out rfl
          have bb0 := (cell_of_heap hk 0).trans (show _ = some (.int .i64 c1) from rfl)
          have bb1 := (cell_of_heap hk 1).trans (show _ = some (.int .i64 k1) from rfl)
          have bb2 := (cell_of_heap hk 2).trans (show _ = some (.int .i64 h1) from rfl)
          have bb3 := (cell_of_heap hk 3).trans (show _ = some (.int .u64 n1) from rfl)
          have bbs := (Array.getElem?_eq_some_iff.1 hk).1
          clear hk
          have hk := Hd.nthk 5 H.out rfl
          have y0 := (cell_of_heap hk 0).trans (show _ = some (.int .i64 ck) from rfl)
          have y1 := (cell_of_heap hk 1).trans (show _ = some (.int .i64 k) from rfl)
          have y2 := (cell_of_heap hk 2).trans (show _ = some (.int .i64 h) from rfl)
          have y3 := (cell_of_heap hk 3).trans (show _ = some (.int .u64 n) from rfl)
          have ys := (Array.getElem?_eq_some_iff.1 hk).1
          have yf := frozen_of_heap hk
          clear hk
          have hk := Hd.nthk 4 H.out rfl
          have z0 := (cell_of_heap hk 0).trans (show _ = some (.int .i64 ck) from rfl)
          have z1 := (cell_of_heap hk 1).trans (show _ = some (.int .i64 k) from rfl)
          have z2 := (cell_of_heap hk 2).trans (show _ = some (.int .i64 h) from rfl)
          have z3 := (cell_of_heap hk 3).trans (show _ = some (.int .u64 n) from rfl)
          have zs := (Array.getElem?_eq_some_iff.1 hk).1
          have zf := frozen_of_heap hk
          clear hk
          have zBY := blks_ne7 (((H.out.front 5 rfl).front 1 rfl))
          have zBZ := blks_ne7 (((H.out.front 4 rfl).front 1 rfl))
          have zAY := blks_ne7 (((H.out.front 5 rfl).front 3 rfl))
          have zZY := blks_ne7 (((H.out.front 5 rfl).front 5 rfl))
          go_wp2_with fail
          go_roundw
          case rel => exact ⟨j + 1, by omega, by go_num, L1, c1, k1, h1, n1, HF, hid (Hd.dropEnd7 (Rs := [Sto b L1 1000, RSto b' L1 1000, RBox w2.heap.size c1 k1 h1 n1, SBox W.heap.size c1 k1 h1 n1]) ((((((((((((H.out.front 5 rfl).set 0 (.int .i64 c1)).set 1 (.int .i64 k1)).set 2 (.int .i64 h1)).set 3 (.int .u64 n1)).front 5 rfl).set 0 (.int .i64 c1)).set 1 (.int .i64 k1)).set 2 (.int .i64 h1)).set 3 (.int .u64 n1)).front 3 rfl).front 5 rfl))⟩
          case measure => simp [intOf]; omega
        · have de : decide (e1 = 0) = false := by simpa using he
          have de2 : (e1 == 0) = false := by simpa using he
          clear he
          go_wp2_with fail
          go_roundw
          case rel => exact ⟨j + 1, by omega, by go_num, L1, ck, k, h, n, HN, hid (Hd.dropEnd7 (Rs := [Sto b L1 1000, RSto b' L1 1000, RBox w2.heap.size ck k h n, SBox W.heap.size ck k h n]) ((((H.out.front 5 rfl).front 5 rfl).front 3 rfl).front 5 rfl))⟩
          case measure => simp [intOf]; omega
      · rw [hu] at h7
        clear hu
        obtain ⟨⟨⟨c1, k1, h1, n1⟩, e1, L1⟩, hR⟩ : ∃ r, sMix 1000 L ⟨ck, k, h, n⟩ v = r := ⟨_, rfl⟩
        have HF := hid (sMix_fits 1000 L ⟨ck, k, h, n⟩ v)
        rw [hR] at HF
        have HR := hid hR
        clear hR
        have H9 := hid (H.out.front 2 rfl)
        clear H
        have H := H9
        clear H9
        have hk := Hd.nthk 5 H.out rfl
        have y0 := (cell_of_heap hk 0).trans (show _ = some (.int .i64 ck) from rfl)
        have y1 := (cell_of_heap hk 1).trans (show _ = some (.int .i64 k) from rfl)
        have y2 := (cell_of_heap hk 2).trans (show _ = some (.int .i64 h) from rfl)
        have y3 := (cell_of_heap hk 3).trans (show _ = some (.int .u64 n) from rfl)
        have ys := (Array.getElem?_eq_some_iff.1 hk).1
        clear hk
        go_wp2_with fail
        refine (smix_calls ck k h n v H.out).mono ?_
        rw [HR.out]
        dsimp only
        rintro e w6 ⟨rfl, hd⟩
        clear y0 y1 y2 y3 ys H c0
        have H := hid hd
        clear hd
        have hk := Hd.nthk 1 H.out rfl
        have aa0 := (cell_of_heap hk 0).trans (show _ = some (.int .i64 ck) from rfl)
        have aa1 := (cell_of_heap hk 1).trans (show _ = some (.int .i64 k) from rfl)
        have aa2 := (cell_of_heap hk 2).trans (show _ = some (.int .i64 h) from rfl)
        have aa3 := (cell_of_heap hk 3).trans (show _ = some (.int .u64 n) from rfl)
        have aas := (Array.getElem?_eq_some_iff.1 hk).1
        have aaf := frozen_of_heap hk
        clear hk
        have hk := Hd.nthk 4 H.out rfl
        have z0 := (cell_of_heap hk 0).trans (show _ = some (.int .i64 ck) from rfl)
        have z1 := (cell_of_heap hk 1).trans (show _ = some (.int .i64 k) from rfl)
        have z2 := (cell_of_heap hk 2).trans (show _ = some (.int .i64 h) from rfl)
        have z3 := (cell_of_heap hk 3).trans (show _ = some (.int .u64 n) from rfl)
        have zs := (Array.getElem?_eq_some_iff.1 hk).1
        clear hk
        have zaz := blks_ne7 (((H.out.front 4 rfl).front 2 rfl))
        have zza : ¬ (w2.heap.size = ka) := fun e => zaz e.symm
        go_wp2_with fail
        have H9 := hid ((((((H.out.front 1 rfl).set 0 (.int .i64 c1)).set 1 (.int .i64 k1)).set 2 (.int .i64 h1)).set 3 (.int .u64 n1)))
        clear aa0 aa1 aa2 aa3 aas aaf z0 z1 z2 z3 zs H
        have H := H9
        clear H9
        clear zaz zza
        have H9 := hid (H.out.front 3 rfl)
        clear H
        have H := H9
        clear H9
        refine (rsmix_calls ck k h n v H.out).mono ?_
        rw [HR.out]
        dsimp only
        rintro e w8 ⟨rfl, hd⟩
        clear H
        have H := hid hd
        clear hd
        have hk := Hd.nthk 3 H.out rfl
        have bb0 := (cell_of_heap hk 0).trans (show _ = some (.int .i64 ck) from rfl)
        have bb1 := (cell_of_heap hk 1).trans (show _ = some (.int .i64 k) from rfl)
        have bb2 := (cell_of_heap hk 2).trans (show _ = some (.int .i64 h) from rfl)
        have bb3 := (cell_of_heap hk 3).trans (show _ = some (.int .u64 n) from rfl)
        have bbs := (Array.getElem?_eq_some_iff.1 hk).1
        have bbf := frozen_of_heap hk
        clear hk
        go_wp2_with fail
        have H9 := hid ((((((H.out.front 3 rfl).set 0 (.int .i64 c1)).set 1 (.int .i64 k1)).set 2 (.int .i64 h1)).set 3 (.int .u64 n1)))
        clear bb0 bb1 bb2 bb3 bbs bbf H
        have H := H9
        clear H9
        have cf23 : ∀ args w, (callFunc 23 args).run Try.prog w = .ok (.enter 23 args) w := fun args w => by kernel_rfl
        refine wp_region_hold [[], [], [0, 1], [2], [3], [3], [3, 4, 5], [3, 6], [7], [8], [8, 9], [8], [8, 10, 11], [8, 12]] [[], [], [], [], [], [], [], [], [], [], [], [], [], []] ([some 171, some 172, some 173, some 174, some 175, some 176, some 177, some 178, some 179, some 180, some 181, some 182, some 183, some 184] : List (Option Nat)) ([none, none, none, none, none, none, none, none, none, none, none, none, none, none] : List (Option Nat)) (
            (fun _ => .int .i64 e1) ::
            (fun _ => .int .i64 e1) ::
            (fun _ => .bool false) ::
            (fun _ => .bool false) ::
            (fun _ => .int .i64 0) ::
            (fun _ => .int .i64 0) ::
            (fun _ => .bool false) ::
            (fun _ => .bool false) ::
            (fun _ => .bool false) ::
            (fun _ => .agg #[.int .i64 c1, .int .i64 k1, .int .i64 h1, .int .u64 n1]) ::
            (fun _ => .agg #[.int .i64 c1, .int .i64 k1, .int .i64 h1, .int .u64 n1]) ::
            (fun _ => .agg #[.int .i64 c1, .int .i64 k1, .int .i64 h1, .int .u64 n1]) ::
            (fun _ => .bool false) ::
            (fun _ => .bool false) :: []) ((fun _ => []) :: (fun _ => []) :: (fun _ => []) :: (fun _ => []) :: (fun _ => []) :: (fun _ => []) :: (fun _ => []) :: (fun _ => []) :: (fun _ => []) :: (fun _ => []) :: (fun _ => []) :: (fun _ => []) :: (fun _ => []) :: (fun _ => []) :: ([] : List (List Gh → List Res))) ((fun _ => []) :: (fun _ => []) :: (fun _ => []) :: (fun _ => []) :: (fun _ => []) :: (fun _ => []) :: (fun _ => []) :: (fun _ => []) :: (fun _ => []) :: (fun _ => []) :: (fun _ => []) :: (fun _ => []) :: (fun _ => []) :: (fun _ => []) :: ([] : List (List Gh → List Res))) (by kernel_rfl) (by kernel_rfl) rfl (hold_lt (n := 196) (by decide)) H.out (hold_nil (fs := []) (by decide) rfl ?_) (hold_fit (by decide)) ?_ ?_ (fun t => decide (171 ≤ t) && decide (t ≤ 184)) (by decide) ?_
        · intro s gs hs
          cases hs
        · repeat (refine StepAll.cons (by first | exact trivial | exact fun g => rfl) ?_)
          exact trivial
        ·
          refine StepAll.cons ?_ ?_
          · refine HoldStep.val (by decide) fun a wx γ hn hr Ss hH K hK => ?_
            have e12 : a.eval (.tmp 12) = .int .i64 e1 := (hr 12 (by decide)).trans rfl
            exact hold_run (v := .int .i64 e1) (by clear hn hr hK; generalize a.eval = ρ at *; simp [execOp, e12, go_sem]) rfl rfl hH hK
          refine StepAll.cons ?_ ?_
          · refine HoldStep.val (by decide) fun a wx γ hn hr Ss hH K hK => ?_
            have e13 : a.eval (.tmp 13) = .int .i64 e1 := (hr 13 (by decide)).trans rfl
            exact hold_run (v := .int .i64 e1) (by clear hn hr hK; generalize a.eval = ρ at *; simp [execOp, e13, go_sem]) rfl rfl hH hK
          refine StepAll.cons ?_ ?_
          · refine HoldStep.val (by decide) fun a wx γ hn hr Ss hH K hK => ?_
            have e171 : a.eval (.tmp 171) = .int .i64 e1 := hn 0 (by decide) 171 rfl
            have e172 : a.eval (.tmp 172) = .int .i64 e1 := hn 1 (by decide) 172 rfl
            exact hold_run (v := .bool false) (by clear hn hr hK; generalize a.eval = ρ at *; simp [execOp, e171, e172, go_sem]) rfl rfl hH hK
          refine StepAll.cons ?_ ?_
          · refine HoldStep.val (by decide) fun a wx γ hn hr Ss hH K hK => ?_
            have e173 : a.eval (.tmp 173) = .bool false := hn 2 (by decide) 173 rfl
            exact hold_run (v := .bool false) (by clear hn hr hK; generalize a.eval = ρ at *; simp [execOp, e173, go_sem]) rfl rfl hH hK
          refine StepAll.cons ?_ ?_
          · refine HoldStep.val (by decide) fun a wx γ hn hr Ss hH K hK => ?_
            have e14 : a.eval (.tmp 14) = .int .i64 0 := (hr 14 (by decide)).trans rfl
            exact hold_run (v := .int .i64 0) (by clear hn hr hK; generalize a.eval = ρ at *; simp [execOp, e14, go_sem]) rfl rfl hH hK
          refine StepAll.cons ?_ ?_
          · refine HoldStep.val (by decide) fun a wx γ hn hr Ss hH K hK => ?_
            have e15 : a.eval (.tmp 15) = .int .i64 0 := (hr 15 (by decide)).trans rfl
            exact hold_run (v := .int .i64 0) (by clear hn hr hK; generalize a.eval = ρ at *; simp [execOp, e15, go_sem]) rfl rfl hH hK
          refine StepAll.cons ?_ ?_
          · refine HoldStep.val (by decide) fun a wx γ hn hr Ss hH K hK => ?_
            have e175 : a.eval (.tmp 175) = .int .i64 0 := hn 4 (by decide) 175 rfl
            have e176 : a.eval (.tmp 176) = .int .i64 0 := hn 5 (by decide) 176 rfl
            exact hold_run (v := .bool false) (by clear hn hr hK; generalize a.eval = ρ at *; simp [execOp, e175, e176, go_sem]) rfl rfl hH hK
          refine StepAll.cons ?_ ?_
          · refine HoldStep.val (by decide) fun a wx γ hn hr Ss hH K hK => ?_
            have e174 : a.eval (.tmp 174) = .bool false := hn 3 (by decide) 174 rfl
            have e177 : a.eval (.tmp 177) = .bool false := hn 6 (by decide) 177 rfl
            exact hold_run (v := .bool false) (by clear hn hr hK; generalize a.eval = ρ at *; simp [execOp, e174, e177, go_sem]) rfl rfl hH hK
          refine StepAll.cons ?_ ?_
          · refine HoldStep.val (by decide) fun a wx γ hn hr Ss hH K hK => ?_
            have e178 : a.eval (.tmp 178) = .bool false := hn 7 (by decide) 178 rfl
            exact hold_run (v := .bool false) (by clear hn hr hK; generalize a.eval = ρ at *; simp [execOp, e178, go_sem]) rfl rfl hH hK
          refine StepAll.cons ?_ ?_
          · refine HoldStep.val (by decide) fun a wx γ hn hr Ss hH K hK => ?_
            have e16 : a.eval (.tmp 16) = .pointer (some ⟨ka, 0, none⟩) := (hr 16 (by decide)).trans rfl
            have hB := Hd.rear hH
            have kA0 := (cell_of_heap (Hd.nthk 2 hB rfl) 0).trans (show _ = some (.int .i64 c1) from rfl)
            have kA1 := (cell_of_heap (Hd.nthk 2 hB rfl) 1).trans (show _ = some (.int .i64 k1) from rfl)
            have kA2 := (cell_of_heap (Hd.nthk 2 hB rfl) 2).trans (show _ = some (.int .i64 h1) from rfl)
            have kA3 := (cell_of_heap (Hd.nthk 2 hB rfl) 3).trans (show _ = some (.int .u64 n1) from rfl)
            exact hold_run (v := .agg #[.int .i64 c1, .int .i64 k1, .int .i64 h1, .int .u64 n1]) (by clear hn hr hK; generalize a.eval = ρ at *; simp [execOp, e16, kA0, kA1, kA2, kA3, go_sem]) rfl rfl hH hK
          refine StepAll.cons ?_ ?_
          · refine HoldStep.val (by decide) fun a wx γ hn hr Ss hH K hK => ?_
            have e180 : a.eval (.tmp 180) = .agg #[.int .i64 c1, .int .i64 k1, .int .i64 h1, .int .u64 n1] := hn 9 (by decide) 180 rfl
            have ef : a.eval (.func 23) = .func (.func 23) #[] #[] := rfl
            exact hold_call (by clear hn hr hK hH; generalize a.eval = ρ at *; simp [execOp, e180, cf23, ef, go_sem]) ((ref7_h c1 k1 h1 n1 wx).mono fun e w2 h => by obtain ⟨x, h1, h2⟩ := h; exact ⟨x, h1, h2 _⟩) hH hK
          refine StepAll.cons ?_ ?_
          · refine HoldStep.val (by decide) fun a wx γ hn hr Ss hH K hK => ?_
            have e17 : a.eval (.tmp 17) = .pointer (some ⟨kb, 0, none⟩) := (hr 17 (by decide)).trans rfl
            have hB := Hd.rear hH
            have kB0 := (cell_of_heap (Hd.nthk 0 hB rfl) 0).trans (show _ = some (.int .i64 c1) from rfl)
            have kB1 := (cell_of_heap (Hd.nthk 0 hB rfl) 1).trans (show _ = some (.int .i64 k1) from rfl)
            have kB2 := (cell_of_heap (Hd.nthk 0 hB rfl) 2).trans (show _ = some (.int .i64 h1) from rfl)
            have kB3 := (cell_of_heap (Hd.nthk 0 hB rfl) 3).trans (show _ = some (.int .u64 n1) from rfl)
            exact hold_run (v := .agg #[.int .i64 c1, .int .i64 k1, .int .i64 h1, .int .u64 n1]) (by clear hn hr hK; generalize a.eval = ρ at *; simp [execOp, e17, kB0, kB1, kB2, kB3, go_sem]) rfl rfl hH hK
          refine StepAll.cons ?_ ?_
          · refine HoldStep.val (by decide) fun a wx γ hn hr Ss hH K hK => ?_
            have e181 : a.eval (.tmp 181) = .agg #[.int .i64 c1, .int .i64 k1, .int .i64 h1, .int .u64 n1] := hn 10 (by decide) 181 rfl
            have e182 : a.eval (.tmp 182) = .agg #[.int .i64 c1, .int .i64 k1, .int .i64 h1, .int .u64 n1] := hn 11 (by decide) 182 rfl
            exact hold_run (v := .bool false) (by clear hn hr hK; generalize a.eval = ρ at *; simp [execOp, e181, e182, go_sem]) rfl rfl hH hK
          refine StepAll.cons ?_ ?_
          · refine HoldStep.val (by decide) fun a wx γ hn hr Ss hH K hK => ?_
            have e179 : a.eval (.tmp 179) = .bool false := hn 8 (by decide) 179 rfl
            have e183 : a.eval (.tmp 183) = .bool false := hn 12 (by decide) 183 rfl
            exact hold_run (v := .bool false) (by clear hn hr hK; generalize a.eval = ρ at *; simp [execOp, e179, e183, go_sem]) rfl rfl hH hK
          exact trivial
        intro f w9 g9 hv h9
        have er184 : f 184 = .bool false := hv 13 184 rfl
        have hd : Hd W w9 ([] ++ [Blk (kb) (.cells #[.int .i64 c1, .int .i64 k1, .int .i64 h1, .int .u64 n1] 31 (0, 0)), RSto b' L1 1000, Blk (ka) (.cells #[.int .i64 c1, .int .i64 k1, .int .i64 h1, .int .u64 n1] 25 (0, 0)), Sto b L1 1000, Blk (w2.heap.size) (.cells #[.int .i64 ck, .int .i64 k, .int .i64 h, .int .u64 n] 31 (0, 0)), Blk (W.heap.size) (.cells #[.int .i64 ck, .int .i64 k, .int .i64 h, .int .u64 n] 25 (0, 0))]) := h9
        simp only [List.nil_append] at hd
        clear hv h9  cf23
        clear g9
        simp only [patchG, Nat.reduceAdd, Nat.reduceLeDiff, decide_true, decide_false, Bool.and_true, Bool.and_false, cond_true, cond_false, er184]
        clear er184
        clear H
        have H := hid hd
        clear hd
        by_cases he : e1 = 0
        · have de : decide (e1 = 0) = true := by simpa using he
          have de2 : (e1 == 0) = true := by simpa using he
          clear he
          have hk := Hd.nthk 2 H.out rfl
          have aa0 := (cell_of_heap hk 0).trans (show _ = some (.int .i64 c1) from rfl)
          have aa1 := (cell_of_heap hk 1).trans (show _ = some (.int .i64 k1) from rfl)
          have aa2 := (cell_of_heap hk 2).trans (show _ = some (.int .i64 h1) from rfl)
          have aa3 := (cell_of_heap hk 3).trans (show _ = some (.int .u64 n1) from rfl)
          have aas := (Array.getElem?_eq_some_iff.1 hk).1
          clear hk
          have hk := Hd.nthk 0 H.out rfl
          have bb0 := (cell_of_heap hk 0).trans (show _ = some (.int .i64 c1) from rfl)
          have bb1 := (cell_of_heap hk 1).trans (show _ = some (.int .i64 k1) from rfl)
          have bb2 := (cell_of_heap hk 2).trans (show _ = some (.int .i64 h1) from rfl)
          have bb3 := (cell_of_heap hk 3).trans (show _ = some (.int .u64 n1) from rfl)
          have bbs := (Array.getElem?_eq_some_iff.1 hk).1
          clear hk
          have hk := Hd.nthk 5 H.out rfl
          have y0 := (cell_of_heap hk 0).trans (show _ = some (.int .i64 ck) from rfl)
          have y1 := (cell_of_heap hk 1).trans (show _ = some (.int .i64 k) from rfl)
          have y2 := (cell_of_heap hk 2).trans (show _ = some (.int .i64 h) from rfl)
          have y3 := (cell_of_heap hk 3).trans (show _ = some (.int .u64 n) from rfl)
          have ys := (Array.getElem?_eq_some_iff.1 hk).1
          have yf := frozen_of_heap hk
          clear hk
          have hk := Hd.nthk 4 H.out rfl
          have z0 := (cell_of_heap hk 0).trans (show _ = some (.int .i64 ck) from rfl)
          have z1 := (cell_of_heap hk 1).trans (show _ = some (.int .i64 k) from rfl)
          have z2 := (cell_of_heap hk 2).trans (show _ = some (.int .i64 h) from rfl)
          have z3 := (cell_of_heap hk 3).trans (show _ = some (.int .u64 n) from rfl)
          have zs := (Array.getElem?_eq_some_iff.1 hk).1
          have zf := frozen_of_heap hk
          clear hk
          have zBY := blks_ne7 (((H.out.front 5 rfl).front 1 rfl))
          have zBZ := blks_ne7 (((H.out.front 4 rfl).front 1 rfl))
          have zAY := blks_ne7 (((H.out.front 5 rfl).front 3 rfl))
          have zZY := blks_ne7 (((H.out.front 5 rfl).front 5 rfl))
          go_wp2_with fail
          go_roundw
          case rel => exact ⟨j + 1, by omega, by go_num, L1, c1, k1, h1, n1, HF, hid (Hd.dropEnd7 (Rs := [Sto b L1 1000, RSto b' L1 1000, RBox w2.heap.size c1 k1 h1 n1, SBox W.heap.size c1 k1 h1 n1]) ((((((((((((H.out.front 5 rfl).set 0 (.int .i64 c1)).set 1 (.int .i64 k1)).set 2 (.int .i64 h1)).set 3 (.int .u64 n1)).front 5 rfl).set 0 (.int .i64 c1)).set 1 (.int .i64 k1)).set 2 (.int .i64 h1)).set 3 (.int .u64 n1)).front 3 rfl).front 5 rfl))⟩
          case measure => simp [intOf]; omega
        · have de : decide (e1 = 0) = false := by simpa using he
          have de2 : (e1 == 0) = false := by simpa using he
          clear he
          go_wp2_with fail
          go_roundw
          case rel => exact ⟨j + 1, by omega, by go_num, L1, ck, k, h, n, HN, hid (Hd.dropEnd7 (Rs := [Sto b L1 1000, RSto b' L1 1000, RBox w2.heap.size ck k h n, SBox W.heap.size ck k h n]) ((((H.out.front 5 rfl).front 5 rfl).front 3 rfl).front 5 rfl))⟩
          case measure => simp [intOf]; omega
      · rw [hu] at h7
        clear hu
        obtain ⟨⟨⟨c1, k1, h1, n1⟩, e1, L1⟩, hR⟩ : ∃ r, sMix 1000 L ⟨ck, k, h, n⟩ v = r := ⟨_, rfl⟩
        have HF := hid (sMix_fits 1000 L ⟨ck, k, h, n⟩ v)
        rw [hR] at HF
        have HR := hid hR
        clear hR
        have H9 := hid (H.out.front 2 rfl)
        clear H
        have H := H9
        clear H9
        have hk := Hd.nthk 5 H.out rfl
        have y0 := (cell_of_heap hk 0).trans (show _ = some (.int .i64 ck) from rfl)
        have y1 := (cell_of_heap hk 1).trans (show _ = some (.int .i64 k) from rfl)
        have y2 := (cell_of_heap hk 2).trans (show _ = some (.int .i64 h) from rfl)
        have y3 := (cell_of_heap hk 3).trans (show _ = some (.int .u64 n) from rfl)
        have ys := (Array.getElem?_eq_some_iff.1 hk).1
        clear hk
        go_wp2_with fail
        refine (smix_calls ck k h n v H.out).mono ?_
        rw [HR.out]
        dsimp only
        rintro e w6 ⟨rfl, hd⟩
        clear y0 y1 y2 y3 ys H c0
        have H := hid hd
        clear hd
        have hk := Hd.nthk 1 H.out rfl
        have aa0 := (cell_of_heap hk 0).trans (show _ = some (.int .i64 ck) from rfl)
        have aa1 := (cell_of_heap hk 1).trans (show _ = some (.int .i64 k) from rfl)
        have aa2 := (cell_of_heap hk 2).trans (show _ = some (.int .i64 h) from rfl)
        have aa3 := (cell_of_heap hk 3).trans (show _ = some (.int .u64 n) from rfl)
        have aas := (Array.getElem?_eq_some_iff.1 hk).1
        have aaf := frozen_of_heap hk
        clear hk
        have hk := Hd.nthk 4 H.out rfl
        have z0 := (cell_of_heap hk 0).trans (show _ = some (.int .i64 ck) from rfl)
        have z1 := (cell_of_heap hk 1).trans (show _ = some (.int .i64 k) from rfl)
        have z2 := (cell_of_heap hk 2).trans (show _ = some (.int .i64 h) from rfl)
        have z3 := (cell_of_heap hk 3).trans (show _ = some (.int .u64 n) from rfl)
        have zs := (Array.getElem?_eq_some_iff.1 hk).1
        clear hk
        have zaz := blks_ne7 (((H.out.front 4 rfl).front 2 rfl))
        have zza : ¬ (w2.heap.size = ka) := fun e => zaz e.symm
        go_wp2_with fail
        have H9 := hid ((((((H.out.front 1 rfl).set 0 (.int .i64 c1)).set 1 (.int .i64 k1)).set 2 (.int .i64 h1)).set 3 (.int .u64 n1)))
        clear aa0 aa1 aa2 aa3 aas aaf z0 z1 z2 z3 zs H
        have H := H9
        clear H9
        clear zaz zza
        have H9 := hid (H.out.front 3 rfl)
        clear H
        have H := H9
        clear H9
        refine (rsmix_calls ck k h n v H.out).mono ?_
        rw [HR.out]
        dsimp only
        rintro e w8 ⟨rfl, hd⟩
        clear H
        have H := hid hd
        clear hd
        have hk := Hd.nthk 3 H.out rfl
        have bb0 := (cell_of_heap hk 0).trans (show _ = some (.int .i64 ck) from rfl)
        have bb1 := (cell_of_heap hk 1).trans (show _ = some (.int .i64 k) from rfl)
        have bb2 := (cell_of_heap hk 2).trans (show _ = some (.int .i64 h) from rfl)
        have bb3 := (cell_of_heap hk 3).trans (show _ = some (.int .u64 n) from rfl)
        have bbs := (Array.getElem?_eq_some_iff.1 hk).1
        have bbf := frozen_of_heap hk
        clear hk
        go_wp2_with fail
        have H9 := hid ((((((H.out.front 3 rfl).set 0 (.int .i64 c1)).set 1 (.int .i64 k1)).set 2 (.int .i64 h1)).set 3 (.int .u64 n1)))
        clear bb0 bb1 bb2 bb3 bbs bbf H
        have H := H9
        clear H9
        have cf23 : ∀ args w, (callFunc 23 args).run Try.prog w = .ok (.enter 23 args) w := fun args w => by kernel_rfl
        refine wp_region_hold [[], [], [0, 1], [2], [3], [3], [3, 4, 5], [3, 6], [7], [8], [8, 9], [8], [8, 10, 11], [8, 12]] [[], [], [], [], [], [], [], [], [], [], [], [], [], []] ([some 171, some 172, some 173, some 174, some 175, some 176, some 177, some 178, some 179, some 180, some 181, some 182, some 183, some 184] : List (Option Nat)) ([none, none, none, none, none, none, none, none, none, none, none, none, none, none] : List (Option Nat)) (
            (fun _ => .int .i64 e1) ::
            (fun _ => .int .i64 e1) ::
            (fun _ => .bool false) ::
            (fun _ => .bool false) ::
            (fun _ => .int .i64 0) ::
            (fun _ => .int .i64 0) ::
            (fun _ => .bool false) ::
            (fun _ => .bool false) ::
            (fun _ => .bool false) ::
            (fun _ => .agg #[.int .i64 c1, .int .i64 k1, .int .i64 h1, .int .u64 n1]) ::
            (fun _ => .agg #[.int .i64 c1, .int .i64 k1, .int .i64 h1, .int .u64 n1]) ::
            (fun _ => .agg #[.int .i64 c1, .int .i64 k1, .int .i64 h1, .int .u64 n1]) ::
            (fun _ => .bool false) ::
            (fun _ => .bool false) :: []) ((fun _ => []) :: (fun _ => []) :: (fun _ => []) :: (fun _ => []) :: (fun _ => []) :: (fun _ => []) :: (fun _ => []) :: (fun _ => []) :: (fun _ => []) :: (fun _ => []) :: (fun _ => []) :: (fun _ => []) :: (fun _ => []) :: (fun _ => []) :: ([] : List (List Gh → List Res))) ((fun _ => []) :: (fun _ => []) :: (fun _ => []) :: (fun _ => []) :: (fun _ => []) :: (fun _ => []) :: (fun _ => []) :: (fun _ => []) :: (fun _ => []) :: (fun _ => []) :: (fun _ => []) :: (fun _ => []) :: (fun _ => []) :: (fun _ => []) :: ([] : List (List Gh → List Res))) (by kernel_rfl) (by kernel_rfl) rfl (hold_lt (n := 196) (by decide)) H.out (hold_nil (fs := []) (by decide) rfl ?_) (hold_fit (by decide)) ?_ ?_ (fun t => decide (171 ≤ t) && decide (t ≤ 184)) (by decide) ?_
        · intro s gs hs
          cases hs
        · repeat (refine StepAll.cons (by first | exact trivial | exact fun g => rfl) ?_)
          exact trivial
        ·
          refine StepAll.cons ?_ ?_
          · refine HoldStep.val (by decide) fun a wx γ hn hr Ss hH K hK => ?_
            have e12 : a.eval (.tmp 12) = .int .i64 e1 := (hr 12 (by decide)).trans rfl
            exact hold_run (v := .int .i64 e1) (by clear hn hr hK; generalize a.eval = ρ at *; simp [execOp, e12, go_sem]) rfl rfl hH hK
          refine StepAll.cons ?_ ?_
          · refine HoldStep.val (by decide) fun a wx γ hn hr Ss hH K hK => ?_
            have e13 : a.eval (.tmp 13) = .int .i64 e1 := (hr 13 (by decide)).trans rfl
            exact hold_run (v := .int .i64 e1) (by clear hn hr hK; generalize a.eval = ρ at *; simp [execOp, e13, go_sem]) rfl rfl hH hK
          refine StepAll.cons ?_ ?_
          · refine HoldStep.val (by decide) fun a wx γ hn hr Ss hH K hK => ?_
            have e171 : a.eval (.tmp 171) = .int .i64 e1 := hn 0 (by decide) 171 rfl
            have e172 : a.eval (.tmp 172) = .int .i64 e1 := hn 1 (by decide) 172 rfl
            exact hold_run (v := .bool false) (by clear hn hr hK; generalize a.eval = ρ at *; simp [execOp, e171, e172, go_sem]) rfl rfl hH hK
          refine StepAll.cons ?_ ?_
          · refine HoldStep.val (by decide) fun a wx γ hn hr Ss hH K hK => ?_
            have e173 : a.eval (.tmp 173) = .bool false := hn 2 (by decide) 173 rfl
            exact hold_run (v := .bool false) (by clear hn hr hK; generalize a.eval = ρ at *; simp [execOp, e173, go_sem]) rfl rfl hH hK
          refine StepAll.cons ?_ ?_
          · refine HoldStep.val (by decide) fun a wx γ hn hr Ss hH K hK => ?_
            have e14 : a.eval (.tmp 14) = .int .i64 0 := (hr 14 (by decide)).trans rfl
            exact hold_run (v := .int .i64 0) (by clear hn hr hK; generalize a.eval = ρ at *; simp [execOp, e14, go_sem]) rfl rfl hH hK
          refine StepAll.cons ?_ ?_
          · refine HoldStep.val (by decide) fun a wx γ hn hr Ss hH K hK => ?_
            have e15 : a.eval (.tmp 15) = .int .i64 0 := (hr 15 (by decide)).trans rfl
            exact hold_run (v := .int .i64 0) (by clear hn hr hK; generalize a.eval = ρ at *; simp [execOp, e15, go_sem]) rfl rfl hH hK
          refine StepAll.cons ?_ ?_
          · refine HoldStep.val (by decide) fun a wx γ hn hr Ss hH K hK => ?_
            have e175 : a.eval (.tmp 175) = .int .i64 0 := hn 4 (by decide) 175 rfl
            have e176 : a.eval (.tmp 176) = .int .i64 0 := hn 5 (by decide) 176 rfl
            exact hold_run (v := .bool false) (by clear hn hr hK; generalize a.eval = ρ at *; simp [execOp, e175, e176, go_sem]) rfl rfl hH hK
          refine StepAll.cons ?_ ?_
          · refine HoldStep.val (by decide) fun a wx γ hn hr Ss hH K hK => ?_
            have e174 : a.eval (.tmp 174) = .bool false := hn 3 (by decide) 174 rfl
            have e177 : a.eval (.tmp 177) = .bool false := hn 6 (by decide) 177 rfl
            exact hold_run (v := .bool false) (by clear hn hr hK; generalize a.eval = ρ at *; simp [execOp, e174, e177, go_sem]) rfl rfl hH hK
          refine StepAll.cons ?_ ?_
          · refine HoldStep.val (by decide) fun a wx γ hn hr Ss hH K hK => ?_
            have e178 : a.eval (.tmp 178) = .bool false := hn 7 (by decide) 178 rfl
            exact hold_run (v := .bool false) (by clear hn hr hK; generalize a.eval = ρ at *; simp [execOp, e178, go_sem]) rfl rfl hH hK
          refine StepAll.cons ?_ ?_
          · refine HoldStep.val (by decide) fun a wx γ hn hr Ss hH K hK => ?_
            have e16 : a.eval (.tmp 16) = .pointer (some ⟨ka, 0, none⟩) := (hr 16 (by decide)).trans rfl
            have hB := Hd.rear hH
            have kA0 := (cell_of_heap (Hd.nthk 2 hB rfl) 0).trans (show _ = some (.int .i64 c1) from rfl)
            have kA1 := (cell_of_heap (Hd.nthk 2 hB rfl) 1).trans (show _ = some (.int .i64 k1) from rfl)
            have kA2 := (cell_of_heap (Hd.nthk 2 hB rfl) 2).trans (show _ = some (.int .i64 h1) from rfl)
            have kA3 := (cell_of_heap (Hd.nthk 2 hB rfl) 3).trans (show _ = some (.int .u64 n1) from rfl)
            exact hold_run (v := .agg #[.int .i64 c1, .int .i64 k1, .int .i64 h1, .int .u64 n1]) (by clear hn hr hK; generalize a.eval = ρ at *; simp [execOp, e16, kA0, kA1, kA2, kA3, go_sem]) rfl rfl hH hK
          refine StepAll.cons ?_ ?_
          · refine HoldStep.val (by decide) fun a wx γ hn hr Ss hH K hK => ?_
            have e180 : a.eval (.tmp 180) = .agg #[.int .i64 c1, .int .i64 k1, .int .i64 h1, .int .u64 n1] := hn 9 (by decide) 180 rfl
            have ef : a.eval (.func 23) = .func (.func 23) #[] #[] := rfl
            exact hold_call (by clear hn hr hK hH; generalize a.eval = ρ at *; simp [execOp, e180, cf23, ef, go_sem]) ((ref7_h c1 k1 h1 n1 wx).mono fun e w2 h => by obtain ⟨x, h1, h2⟩ := h; exact ⟨x, h1, h2 _⟩) hH hK
          refine StepAll.cons ?_ ?_
          · refine HoldStep.val (by decide) fun a wx γ hn hr Ss hH K hK => ?_
            have e17 : a.eval (.tmp 17) = .pointer (some ⟨kb, 0, none⟩) := (hr 17 (by decide)).trans rfl
            have hB := Hd.rear hH
            have kB0 := (cell_of_heap (Hd.nthk 0 hB rfl) 0).trans (show _ = some (.int .i64 c1) from rfl)
            have kB1 := (cell_of_heap (Hd.nthk 0 hB rfl) 1).trans (show _ = some (.int .i64 k1) from rfl)
            have kB2 := (cell_of_heap (Hd.nthk 0 hB rfl) 2).trans (show _ = some (.int .i64 h1) from rfl)
            have kB3 := (cell_of_heap (Hd.nthk 0 hB rfl) 3).trans (show _ = some (.int .u64 n1) from rfl)
            exact hold_run (v := .agg #[.int .i64 c1, .int .i64 k1, .int .i64 h1, .int .u64 n1]) (by clear hn hr hK; generalize a.eval = ρ at *; simp [execOp, e17, kB0, kB1, kB2, kB3, go_sem]) rfl rfl hH hK
          refine StepAll.cons ?_ ?_
          · refine HoldStep.val (by decide) fun a wx γ hn hr Ss hH K hK => ?_
            have e181 : a.eval (.tmp 181) = .agg #[.int .i64 c1, .int .i64 k1, .int .i64 h1, .int .u64 n1] := hn 10 (by decide) 181 rfl
            have e182 : a.eval (.tmp 182) = .agg #[.int .i64 c1, .int .i64 k1, .int .i64 h1, .int .u64 n1] := hn 11 (by decide) 182 rfl
            exact hold_run (v := .bool false) (by clear hn hr hK; generalize a.eval = ρ at *; simp [execOp, e181, e182, go_sem]) rfl rfl hH hK
          refine StepAll.cons ?_ ?_
          · refine HoldStep.val (by decide) fun a wx γ hn hr Ss hH K hK => ?_
            have e179 : a.eval (.tmp 179) = .bool false := hn 8 (by decide) 179 rfl
            have e183 : a.eval (.tmp 183) = .bool false := hn 12 (by decide) 183 rfl
            exact hold_run (v := .bool false) (by clear hn hr hK; generalize a.eval = ρ at *; simp [execOp, e179, e183, go_sem]) rfl rfl hH hK
          exact trivial
        intro f w9 g9 hv h9
        have er184 : f 184 = .bool false := hv 13 184 rfl
        have hd : Hd W w9 ([] ++ [Blk (kb) (.cells #[.int .i64 c1, .int .i64 k1, .int .i64 h1, .int .u64 n1] 31 (0, 0)), RSto b' L1 1000, Blk (ka) (.cells #[.int .i64 c1, .int .i64 k1, .int .i64 h1, .int .u64 n1] 25 (0, 0)), Sto b L1 1000, Blk (w2.heap.size) (.cells #[.int .i64 ck, .int .i64 k, .int .i64 h, .int .u64 n] 31 (0, 0)), Blk (W.heap.size) (.cells #[.int .i64 ck, .int .i64 k, .int .i64 h, .int .u64 n] 25 (0, 0))]) := h9
        simp only [List.nil_append] at hd
        clear hv h9  cf23
        clear g9
        simp only [patchG, Nat.reduceAdd, Nat.reduceLeDiff, decide_true, decide_false, Bool.and_true, Bool.and_false, cond_true, cond_false, er184]
        clear er184
        clear H
        have H := hid hd
        clear hd
        by_cases he : e1 = 0
        · have de : decide (e1 = 0) = true := by simpa using he
          have de2 : (e1 == 0) = true := by simpa using he
          clear he
          have hk := Hd.nthk 2 H.out rfl
          have aa0 := (cell_of_heap hk 0).trans (show _ = some (.int .i64 c1) from rfl)
          have aa1 := (cell_of_heap hk 1).trans (show _ = some (.int .i64 k1) from rfl)
          have aa2 := (cell_of_heap hk 2).trans (show _ = some (.int .i64 h1) from rfl)
          have aa3 := (cell_of_heap hk 3).trans (show _ = some (.int .u64 n1) from rfl)
          have aas := (Array.getElem?_eq_some_iff.1 hk).1
          clear hk
          have hk := Hd.nthk 0 H.out rfl
          have bb0 := (cell_of_heap hk 0).trans (show _ = some (.int .i64 c1) from rfl)
          have bb1 := (cell_of_heap hk 1).trans (show _ = some (.int .i64 k1) from rfl)
          have bb2 := (cell_of_heap hk 2).trans (show _ = some (.int .i64 h1) from rfl)
          have bb3 := (cell_of_heap hk 3).trans (show _ = some (.int .u64 n1) from rfl)
          have bbs := (Array.getElem?_eq_some_iff.1 hk).1
          clear hk
          have hk := Hd.nthk 5 H.out rfl
          have y0 := (cell_of_heap hk 0).trans (show _ = some (.int .i64 ck) from rfl)
          have y1 := (cell_of_heap hk 1).trans (show _ = some (.int .i64 k) from rfl)
          have y2 := (cell_of_heap hk 2).trans (show _ = some (.int .i64 h) from rfl)
          have y3 := (cell_of_heap hk 3).trans (show _ = some (.int .u64 n) from rfl)
          have ys := (Array.getElem?_eq_some_iff.1 hk).1
          have yf := frozen_of_heap hk
          clear hk
          have hk := Hd.nthk 4 H.out rfl
          have z0 := (cell_of_heap hk 0).trans (show _ = some (.int .i64 ck) from rfl)
          have z1 := (cell_of_heap hk 1).trans (show _ = some (.int .i64 k) from rfl)
          have z2 := (cell_of_heap hk 2).trans (show _ = some (.int .i64 h) from rfl)
          have z3 := (cell_of_heap hk 3).trans (show _ = some (.int .u64 n) from rfl)
          have zs := (Array.getElem?_eq_some_iff.1 hk).1
          have zf := frozen_of_heap hk
          clear hk
          have zBY := blks_ne7 (((H.out.front 5 rfl).front 1 rfl))
          have zBZ := blks_ne7 (((H.out.front 4 rfl).front 1 rfl))
          have zAY := blks_ne7 (((H.out.front 5 rfl).front 3 rfl))
          have zZY := blks_ne7 (((H.out.front 5 rfl).front 5 rfl))
          go_wp2_with fail
          go_roundw
          case rel => exact ⟨j + 1, by omega, by go_num, L1, c1, k1, h1, n1, HF, hid (Hd.dropEnd7 (Rs := [Sto b L1 1000, RSto b' L1 1000, RBox w2.heap.size c1 k1 h1 n1, SBox W.heap.size c1 k1 h1 n1]) ((((((((((((H.out.front 5 rfl).set 0 (.int .i64 c1)).set 1 (.int .i64 k1)).set 2 (.int .i64 h1)).set 3 (.int .u64 n1)).front 5 rfl).set 0 (.int .i64 c1)).set 1 (.int .i64 k1)).set 2 (.int .i64 h1)).set 3 (.int .u64 n1)).front 3 rfl).front 5 rfl))⟩
          case measure => simp [intOf]; omega
        · have de : decide (e1 = 0) = false := by simpa using he
          have de2 : (e1 == 0) = false := by simpa using he
          clear he
          go_wp2_with fail
          go_roundw
          case rel => exact ⟨j + 1, by omega, by go_num, L1, ck, k, h, n, HN, hid (Hd.dropEnd7 (Rs := [Sto b L1 1000, RSto b' L1 1000, RBox w2.heap.size ck k h n, SBox W.heap.size ck k h n]) ((((H.out.front 5 rfl).front 5 rfl).front 3 rfl).front 5 rfl))⟩
          case measure => simp [intOf]; omega
      · rw [hu] at h7
        clear hu
        obtain ⟨⟨⟨c1, k1, h1, n1⟩, v1, e1, L1⟩, hR⟩ : ∃ r, sSeal 1000 L ⟨ck, k, h, n⟩ v = r := ⟨_, rfl⟩
        have HF := hid (sSeal_fits 1000 L (y := ⟨ck, k, h, n⟩) v HN.out)
        rw [hR] at HF
        have HR := hid hR
        clear hR
        have H9 := hid (H.out.front 2 rfl)
        clear H
        have H := H9
        clear H9
        have hk := Hd.nthk 5 H.out rfl
        have y0 := (cell_of_heap hk 0).trans (show _ = some (.int .i64 ck) from rfl)
        have y1 := (cell_of_heap hk 1).trans (show _ = some (.int .i64 k) from rfl)
        have y2 := (cell_of_heap hk 2).trans (show _ = some (.int .i64 h) from rfl)
        have y3 := (cell_of_heap hk 3).trans (show _ = some (.int .u64 n) from rfl)
        have ys := (Array.getElem?_eq_some_iff.1 hk).1
        clear hk
        go_wp2_with fail
        refine (sseal_calls ck k h n v HN.out.1 HN.out.2 H.out).mono ?_
        rw [HR.out]
        dsimp only
        rintro e w6 ⟨rfl, hd⟩
        clear y0 y1 y2 y3 ys H c0
        have H := hid hd
        clear hd
        have hk := Hd.nthk 1 H.out rfl
        have aa0 := (cell_of_heap hk 0).trans (show _ = some (.int .i64 ck) from rfl)
        have aa1 := (cell_of_heap hk 1).trans (show _ = some (.int .i64 k) from rfl)
        have aa2 := (cell_of_heap hk 2).trans (show _ = some (.int .i64 h) from rfl)
        have aa3 := (cell_of_heap hk 3).trans (show _ = some (.int .u64 n) from rfl)
        have aas := (Array.getElem?_eq_some_iff.1 hk).1
        have aaf := frozen_of_heap hk
        clear hk
        have hk := Hd.nthk 4 H.out rfl
        have z0 := (cell_of_heap hk 0).trans (show _ = some (.int .i64 ck) from rfl)
        have z1 := (cell_of_heap hk 1).trans (show _ = some (.int .i64 k) from rfl)
        have z2 := (cell_of_heap hk 2).trans (show _ = some (.int .i64 h) from rfl)
        have z3 := (cell_of_heap hk 3).trans (show _ = some (.int .u64 n) from rfl)
        have zs := (Array.getElem?_eq_some_iff.1 hk).1
        clear hk
        have zaz := blks_ne7 (((H.out.front 4 rfl).front 2 rfl))
        have zza : ¬ (w2.heap.size = ka) := fun e => zaz e.symm
        go_wp2_with fail
        have H9 := hid ((((((H.out.front 1 rfl).set 0 (.int .i64 c1)).set 1 (.int .i64 k1)).set 2 (.int .i64 h1)).set 3 (.int .u64 n1)))
        clear aa0 aa1 aa2 aa3 aas aaf z0 z1 z2 z3 zs H
        have H := H9
        clear H9
        clear zaz zza
        have H9 := hid (H.out.front 3 rfl)
        clear H
        have H := H9
        clear H9
        refine (rsseal_calls ck k h n v HN.out.1 HN.out.2 H.out).mono ?_
        rw [HR.out]
        dsimp only
        rintro e w8 ⟨rfl, hd⟩
        clear H
        have H := hid hd
        clear hd
        have hk := Hd.nthk 3 H.out rfl
        have bb0 := (cell_of_heap hk 0).trans (show _ = some (.int .i64 ck) from rfl)
        have bb1 := (cell_of_heap hk 1).trans (show _ = some (.int .i64 k) from rfl)
        have bb2 := (cell_of_heap hk 2).trans (show _ = some (.int .i64 h) from rfl)
        have bb3 := (cell_of_heap hk 3).trans (show _ = some (.int .u64 n) from rfl)
        have bbs := (Array.getElem?_eq_some_iff.1 hk).1
        have bbf := frozen_of_heap hk
        clear hk
        go_wp2_with fail
        have H9 := hid ((((((H.out.front 3 rfl).set 0 (.int .i64 c1)).set 1 (.int .i64 k1)).set 2 (.int .i64 h1)).set 3 (.int .u64 n1)))
        clear bb0 bb1 bb2 bb3 bbs bbf H
        have H := H9
        clear H9
        have cf23 : ∀ args w, (callFunc 23 args).run Try.prog w = .ok (.enter 23 args) w := fun args w => by kernel_rfl
        refine wp_region_hold [[], [], [0, 1], [2], [3], [3], [3, 4, 5], [3, 6], [7], [8], [8, 9], [8], [8, 10, 11], [8, 12]] [[], [], [], [], [], [], [], [], [], [], [], [], [], []] ([some 171, some 172, some 173, some 174, some 175, some 176, some 177, some 178, some 179, some 180, some 181, some 182, some 183, some 184] : List (Option Nat)) ([none, none, none, none, none, none, none, none, none, none, none, none, none, none] : List (Option Nat)) (
            (fun _ => .int .i64 e1) ::
            (fun _ => .int .i64 e1) ::
            (fun _ => .bool false) ::
            (fun _ => .bool false) ::
            (fun _ => .int .i64 v1) ::
            (fun _ => .int .i64 v1) ::
            (fun _ => .bool false) ::
            (fun _ => .bool false) ::
            (fun _ => .bool false) ::
            (fun _ => .agg #[.int .i64 c1, .int .i64 k1, .int .i64 h1, .int .u64 n1]) ::
            (fun _ => .agg #[.int .i64 c1, .int .i64 k1, .int .i64 h1, .int .u64 n1]) ::
            (fun _ => .agg #[.int .i64 c1, .int .i64 k1, .int .i64 h1, .int .u64 n1]) ::
            (fun _ => .bool false) ::
            (fun _ => .bool false) :: []) ((fun _ => []) :: (fun _ => []) :: (fun _ => []) :: (fun _ => []) :: (fun _ => []) :: (fun _ => []) :: (fun _ => []) :: (fun _ => []) :: (fun _ => []) :: (fun _ => []) :: (fun _ => []) :: (fun _ => []) :: (fun _ => []) :: (fun _ => []) :: ([] : List (List Gh → List Res))) ((fun _ => []) :: (fun _ => []) :: (fun _ => []) :: (fun _ => []) :: (fun _ => []) :: (fun _ => []) :: (fun _ => []) :: (fun _ => []) :: (fun _ => []) :: (fun _ => []) :: (fun _ => []) :: (fun _ => []) :: (fun _ => []) :: (fun _ => []) :: ([] : List (List Gh → List Res))) (by kernel_rfl) (by kernel_rfl) rfl (hold_lt (n := 196) (by decide)) H.out (hold_nil (fs := []) (by decide) rfl ?_) (hold_fit (by decide)) ?_ ?_ (fun t => decide (171 ≤ t) && decide (t ≤ 184)) (by decide) ?_
        · intro s gs hs
          cases hs
        · repeat (refine StepAll.cons (by first | exact trivial | exact fun g => rfl) ?_)
          exact trivial
        ·
          refine StepAll.cons ?_ ?_
          · refine HoldStep.val (by decide) fun a wx γ hn hr Ss hH K hK => ?_
            have e12 : a.eval (.tmp 12) = .int .i64 e1 := (hr 12 (by decide)).trans rfl
            exact hold_run (v := .int .i64 e1) (by clear hn hr hK; generalize a.eval = ρ at *; simp [execOp, e12, go_sem]) rfl rfl hH hK
          refine StepAll.cons ?_ ?_
          · refine HoldStep.val (by decide) fun a wx γ hn hr Ss hH K hK => ?_
            have e13 : a.eval (.tmp 13) = .int .i64 e1 := (hr 13 (by decide)).trans rfl
            exact hold_run (v := .int .i64 e1) (by clear hn hr hK; generalize a.eval = ρ at *; simp [execOp, e13, go_sem]) rfl rfl hH hK
          refine StepAll.cons ?_ ?_
          · refine HoldStep.val (by decide) fun a wx γ hn hr Ss hH K hK => ?_
            have e171 : a.eval (.tmp 171) = .int .i64 e1 := hn 0 (by decide) 171 rfl
            have e172 : a.eval (.tmp 172) = .int .i64 e1 := hn 1 (by decide) 172 rfl
            exact hold_run (v := .bool false) (by clear hn hr hK; generalize a.eval = ρ at *; simp [execOp, e171, e172, go_sem]) rfl rfl hH hK
          refine StepAll.cons ?_ ?_
          · refine HoldStep.val (by decide) fun a wx γ hn hr Ss hH K hK => ?_
            have e173 : a.eval (.tmp 173) = .bool false := hn 2 (by decide) 173 rfl
            exact hold_run (v := .bool false) (by clear hn hr hK; generalize a.eval = ρ at *; simp [execOp, e173, go_sem]) rfl rfl hH hK
          refine StepAll.cons ?_ ?_
          · refine HoldStep.val (by decide) fun a wx γ hn hr Ss hH K hK => ?_
            have e14 : a.eval (.tmp 14) = .int .i64 v1 := (hr 14 (by decide)).trans rfl
            exact hold_run (v := .int .i64 v1) (by clear hn hr hK; generalize a.eval = ρ at *; simp [execOp, e14, go_sem]) rfl rfl hH hK
          refine StepAll.cons ?_ ?_
          · refine HoldStep.val (by decide) fun a wx γ hn hr Ss hH K hK => ?_
            have e15 : a.eval (.tmp 15) = .int .i64 v1 := (hr 15 (by decide)).trans rfl
            exact hold_run (v := .int .i64 v1) (by clear hn hr hK; generalize a.eval = ρ at *; simp [execOp, e15, go_sem]) rfl rfl hH hK
          refine StepAll.cons ?_ ?_
          · refine HoldStep.val (by decide) fun a wx γ hn hr Ss hH K hK => ?_
            have e175 : a.eval (.tmp 175) = .int .i64 v1 := hn 4 (by decide) 175 rfl
            have e176 : a.eval (.tmp 176) = .int .i64 v1 := hn 5 (by decide) 176 rfl
            exact hold_run (v := .bool false) (by clear hn hr hK; generalize a.eval = ρ at *; simp [execOp, e175, e176, go_sem]) rfl rfl hH hK
          refine StepAll.cons ?_ ?_
          · refine HoldStep.val (by decide) fun a wx γ hn hr Ss hH K hK => ?_
            have e174 : a.eval (.tmp 174) = .bool false := hn 3 (by decide) 174 rfl
            have e177 : a.eval (.tmp 177) = .bool false := hn 6 (by decide) 177 rfl
            exact hold_run (v := .bool false) (by clear hn hr hK; generalize a.eval = ρ at *; simp [execOp, e174, e177, go_sem]) rfl rfl hH hK
          refine StepAll.cons ?_ ?_
          · refine HoldStep.val (by decide) fun a wx γ hn hr Ss hH K hK => ?_
            have e178 : a.eval (.tmp 178) = .bool false := hn 7 (by decide) 178 rfl
            exact hold_run (v := .bool false) (by clear hn hr hK; generalize a.eval = ρ at *; simp [execOp, e178, go_sem]) rfl rfl hH hK
          refine StepAll.cons ?_ ?_
          · refine HoldStep.val (by decide) fun a wx γ hn hr Ss hH K hK => ?_
            have e16 : a.eval (.tmp 16) = .pointer (some ⟨ka, 0, none⟩) := (hr 16 (by decide)).trans rfl
            have hB := Hd.rear hH
            have kA0 := (cell_of_heap (Hd.nthk 2 hB rfl) 0).trans (show _ = some (.int .i64 c1) from rfl)
            have kA1 := (cell_of_heap (Hd.nthk 2 hB rfl) 1).trans (show _ = some (.int .i64 k1) from rfl)
            have kA2 := (cell_of_heap (Hd.nthk 2 hB rfl) 2).trans (show _ = some (.int .i64 h1) from rfl)
            have kA3 := (cell_of_heap (Hd.nthk 2 hB rfl) 3).trans (show _ = some (.int .u64 n1) from rfl)
            exact hold_run (v := .agg #[.int .i64 c1, .int .i64 k1, .int .i64 h1, .int .u64 n1]) (by clear hn hr hK; generalize a.eval = ρ at *; simp [execOp, e16, kA0, kA1, kA2, kA3, go_sem]) rfl rfl hH hK
          refine StepAll.cons ?_ ?_
          · refine HoldStep.val (by decide) fun a wx γ hn hr Ss hH K hK => ?_
            have e180 : a.eval (.tmp 180) = .agg #[.int .i64 c1, .int .i64 k1, .int .i64 h1, .int .u64 n1] := hn 9 (by decide) 180 rfl
            have ef : a.eval (.func 23) = .func (.func 23) #[] #[] := rfl
            exact hold_call (by clear hn hr hK hH; generalize a.eval = ρ at *; simp [execOp, e180, cf23, ef, go_sem]) ((ref7_h c1 k1 h1 n1 wx).mono fun e w2 h => by obtain ⟨x, h1, h2⟩ := h; exact ⟨x, h1, h2 _⟩) hH hK
          refine StepAll.cons ?_ ?_
          · refine HoldStep.val (by decide) fun a wx γ hn hr Ss hH K hK => ?_
            have e17 : a.eval (.tmp 17) = .pointer (some ⟨kb, 0, none⟩) := (hr 17 (by decide)).trans rfl
            have hB := Hd.rear hH
            have kB0 := (cell_of_heap (Hd.nthk 0 hB rfl) 0).trans (show _ = some (.int .i64 c1) from rfl)
            have kB1 := (cell_of_heap (Hd.nthk 0 hB rfl) 1).trans (show _ = some (.int .i64 k1) from rfl)
            have kB2 := (cell_of_heap (Hd.nthk 0 hB rfl) 2).trans (show _ = some (.int .i64 h1) from rfl)
            have kB3 := (cell_of_heap (Hd.nthk 0 hB rfl) 3).trans (show _ = some (.int .u64 n1) from rfl)
            exact hold_run (v := .agg #[.int .i64 c1, .int .i64 k1, .int .i64 h1, .int .u64 n1]) (by clear hn hr hK; generalize a.eval = ρ at *; simp [execOp, e17, kB0, kB1, kB2, kB3, go_sem]) rfl rfl hH hK
          refine StepAll.cons ?_ ?_
          · refine HoldStep.val (by decide) fun a wx γ hn hr Ss hH K hK => ?_
            have e181 : a.eval (.tmp 181) = .agg #[.int .i64 c1, .int .i64 k1, .int .i64 h1, .int .u64 n1] := hn 10 (by decide) 181 rfl
            have e182 : a.eval (.tmp 182) = .agg #[.int .i64 c1, .int .i64 k1, .int .i64 h1, .int .u64 n1] := hn 11 (by decide) 182 rfl
            exact hold_run (v := .bool false) (by clear hn hr hK; generalize a.eval = ρ at *; simp [execOp, e181, e182, go_sem]) rfl rfl hH hK
          refine StepAll.cons ?_ ?_
          · refine HoldStep.val (by decide) fun a wx γ hn hr Ss hH K hK => ?_
            have e179 : a.eval (.tmp 179) = .bool false := hn 8 (by decide) 179 rfl
            have e183 : a.eval (.tmp 183) = .bool false := hn 12 (by decide) 183 rfl
            exact hold_run (v := .bool false) (by clear hn hr hK; generalize a.eval = ρ at *; simp [execOp, e179, e183, go_sem]) rfl rfl hH hK
          exact trivial
        intro f w9 g9 hv h9
        have er184 : f 184 = .bool false := hv 13 184 rfl
        have hd : Hd W w9 ([] ++ [Blk (kb) (.cells #[.int .i64 c1, .int .i64 k1, .int .i64 h1, .int .u64 n1] 31 (0, 0)), RSto b' L1 1000, Blk (ka) (.cells #[.int .i64 c1, .int .i64 k1, .int .i64 h1, .int .u64 n1] 25 (0, 0)), Sto b L1 1000, Blk (w2.heap.size) (.cells #[.int .i64 ck, .int .i64 k, .int .i64 h, .int .u64 n] 31 (0, 0)), Blk (W.heap.size) (.cells #[.int .i64 ck, .int .i64 k, .int .i64 h, .int .u64 n] 25 (0, 0))]) := h9
        simp only [List.nil_append] at hd
        clear hv h9  cf23
        clear g9
        simp only [patchG, Nat.reduceAdd, Nat.reduceLeDiff, decide_true, decide_false, Bool.and_true, Bool.and_false, cond_true, cond_false, er184]
        clear er184
        clear H
        have H := hid hd
        clear hd
        by_cases he : e1 = 0
        · have de : decide (e1 = 0) = true := by simpa using he
          have de2 : (e1 == 0) = true := by simpa using he
          clear he
          have hk := Hd.nthk 2 H.out rfl
          have aa0 := (cell_of_heap hk 0).trans (show _ = some (.int .i64 c1) from rfl)
          have aa1 := (cell_of_heap hk 1).trans (show _ = some (.int .i64 k1) from rfl)
          have aa2 := (cell_of_heap hk 2).trans (show _ = some (.int .i64 h1) from rfl)
          have aa3 := (cell_of_heap hk 3).trans (show _ = some (.int .u64 n1) from rfl)
          have aas := (Array.getElem?_eq_some_iff.1 hk).1
          clear hk
          have hk := Hd.nthk 0 H.out rfl
          have bb0 := (cell_of_heap hk 0).trans (show _ = some (.int .i64 c1) from rfl)
          have bb1 := (cell_of_heap hk 1).trans (show _ = some (.int .i64 k1) from rfl)
          have bb2 := (cell_of_heap hk 2).trans (show _ = some (.int .i64 h1) from rfl)
          have bb3 := (cell_of_heap hk 3).trans (show _ = some (.int .u64 n1) from rfl)
          have bbs := (Array.getElem?_eq_some_iff.1 hk).1
          clear hk
          have hk := Hd.nthk 5 H.out rfl
          have y0 := (cell_of_heap hk 0).trans (show _ = some (.int .i64 ck) from rfl)
          have y1 := (cell_of_heap hk 1).trans (show _ = some (.int .i64 k) from rfl)
          have y2 := (cell_of_heap hk 2).trans (show _ = some (.int .i64 h) from rfl)
          have y3 := (cell_of_heap hk 3).trans (show _ = some (.int .u64 n) from rfl)
          have ys := (Array.getElem?_eq_some_iff.1 hk).1
          have yf := frozen_of_heap hk
          clear hk
          have hk := Hd.nthk 4 H.out rfl
          have z0 := (cell_of_heap hk 0).trans (show _ = some (.int .i64 ck) from rfl)
          have z1 := (cell_of_heap hk 1).trans (show _ = some (.int .i64 k) from rfl)
          have z2 := (cell_of_heap hk 2).trans (show _ = some (.int .i64 h) from rfl)
          have z3 := (cell_of_heap hk 3).trans (show _ = some (.int .u64 n) from rfl)
          have zs := (Array.getElem?_eq_some_iff.1 hk).1
          have zf := frozen_of_heap hk
          clear hk
          have zBY := blks_ne7 (((H.out.front 5 rfl).front 1 rfl))
          have zBZ := blks_ne7 (((H.out.front 4 rfl).front 1 rfl))
          have zAY := blks_ne7 (((H.out.front 5 rfl).front 3 rfl))
          have zZY := blks_ne7 (((H.out.front 5 rfl).front 5 rfl))
          go_wp2_with fail
          go_roundw
          case rel => exact ⟨j + 1, by omega, by go_num, L1, c1, k1, h1, n1, HF, hid (Hd.dropEnd7 (Rs := [Sto b L1 1000, RSto b' L1 1000, RBox w2.heap.size c1 k1 h1 n1, SBox W.heap.size c1 k1 h1 n1]) ((((((((((((H.out.front 5 rfl).set 0 (.int .i64 c1)).set 1 (.int .i64 k1)).set 2 (.int .i64 h1)).set 3 (.int .u64 n1)).front 5 rfl).set 0 (.int .i64 c1)).set 1 (.int .i64 k1)).set 2 (.int .i64 h1)).set 3 (.int .u64 n1)).front 3 rfl).front 5 rfl))⟩
          case measure => simp [intOf]; omega
        · have de : decide (e1 = 0) = false := by simpa using he
          have de2 : (e1 == 0) = false := by simpa using he
          clear he
          go_wp2_with fail
          go_roundw
          case rel => exact ⟨j + 1, by omega, by go_num, L1, ck, k, h, n, HN, hid (Hd.dropEnd7 (Rs := [Sto b L1 1000, RSto b' L1 1000, RBox w2.heap.size ck k h n, SBox W.heap.size ck k h n]) ((((H.out.front 5 rfl).front 5 rfl).front 3 rfl).front 5 rfl))⟩
          case measure => simp [intOf]; omega
      · rw [hu] at h7
        clear hu
        obtain ⟨⟨⟨c1, k1, h1, n1⟩, v1, e1, L1⟩, hR⟩ : ∃ r, sOpen 1000 L ⟨ck, k, h, n⟩ v = r := ⟨_, rfl⟩
        have HF := hid (sOpen_fits 1000 L (y := ⟨ck, k, h, n⟩) v HN.out)
        rw [hR] at HF
        have HR := hid hR
        clear hR
        have H9 := hid (H.out.front 2 rfl)
        clear H
        have H := H9
        clear H9
        have hk := Hd.nthk 5 H.out rfl
        have y0 := (cell_of_heap hk 0).trans (show _ = some (.int .i64 ck) from rfl)
        have y1 := (cell_of_heap hk 1).trans (show _ = some (.int .i64 k) from rfl)
        have y2 := (cell_of_heap hk 2).trans (show _ = some (.int .i64 h) from rfl)
        have y3 := (cell_of_heap hk 3).trans (show _ = some (.int .u64 n) from rfl)
        have ys := (Array.getElem?_eq_some_iff.1 hk).1
        clear hk
        go_wp2_with fail
        refine (sopen_calls ck k h n v HN.out.1 HN.out.2 H.out).mono ?_
        rw [HR.out]
        dsimp only
        rintro e w6 ⟨rfl, hd⟩
        clear y0 y1 y2 y3 ys H c0
        have H := hid hd
        clear hd
        have hk := Hd.nthk 1 H.out rfl
        have aa0 := (cell_of_heap hk 0).trans (show _ = some (.int .i64 ck) from rfl)
        have aa1 := (cell_of_heap hk 1).trans (show _ = some (.int .i64 k) from rfl)
        have aa2 := (cell_of_heap hk 2).trans (show _ = some (.int .i64 h) from rfl)
        have aa3 := (cell_of_heap hk 3).trans (show _ = some (.int .u64 n) from rfl)
        have aas := (Array.getElem?_eq_some_iff.1 hk).1
        have aaf := frozen_of_heap hk
        clear hk
        have hk := Hd.nthk 4 H.out rfl
        have z0 := (cell_of_heap hk 0).trans (show _ = some (.int .i64 ck) from rfl)
        have z1 := (cell_of_heap hk 1).trans (show _ = some (.int .i64 k) from rfl)
        have z2 := (cell_of_heap hk 2).trans (show _ = some (.int .i64 h) from rfl)
        have z3 := (cell_of_heap hk 3).trans (show _ = some (.int .u64 n) from rfl)
        have zs := (Array.getElem?_eq_some_iff.1 hk).1
        clear hk
        have zaz := blks_ne7 (((H.out.front 4 rfl).front 2 rfl))
        have zza : ¬ (w2.heap.size = ka) := fun e => zaz e.symm
        go_wp2_with fail
        have H9 := hid ((((((H.out.front 1 rfl).set 0 (.int .i64 c1)).set 1 (.int .i64 k1)).set 2 (.int .i64 h1)).set 3 (.int .u64 n1)))
        clear aa0 aa1 aa2 aa3 aas aaf z0 z1 z2 z3 zs H
        have H := H9
        clear H9
        clear zaz zza
        have H9 := hid (H.out.front 3 rfl)
        clear H
        have H := H9
        clear H9
        refine (rsopen_calls ck k h n v HN.out.1 HN.out.2 H.out).mono ?_
        rw [HR.out]
        dsimp only
        rintro e w8 ⟨rfl, hd⟩
        clear H
        have H := hid hd
        clear hd
        have hk := Hd.nthk 3 H.out rfl
        have bb0 := (cell_of_heap hk 0).trans (show _ = some (.int .i64 ck) from rfl)
        have bb1 := (cell_of_heap hk 1).trans (show _ = some (.int .i64 k) from rfl)
        have bb2 := (cell_of_heap hk 2).trans (show _ = some (.int .i64 h) from rfl)
        have bb3 := (cell_of_heap hk 3).trans (show _ = some (.int .u64 n) from rfl)
        have bbs := (Array.getElem?_eq_some_iff.1 hk).1
        have bbf := frozen_of_heap hk
        clear hk
        go_wp2_with fail
        have H9 := hid ((((((H.out.front 3 rfl).set 0 (.int .i64 c1)).set 1 (.int .i64 k1)).set 2 (.int .i64 h1)).set 3 (.int .u64 n1)))
        clear bb0 bb1 bb2 bb3 bbs bbf H
        have H := H9
        clear H9
        have cf23 : ∀ args w, (callFunc 23 args).run Try.prog w = .ok (.enter 23 args) w := fun args w => by kernel_rfl
        refine wp_region_hold [[], [], [0, 1], [2], [3], [3], [3, 4, 5], [3, 6], [7], [8], [8, 9], [8], [8, 10, 11], [8, 12]] [[], [], [], [], [], [], [], [], [], [], [], [], [], []] ([some 171, some 172, some 173, some 174, some 175, some 176, some 177, some 178, some 179, some 180, some 181, some 182, some 183, some 184] : List (Option Nat)) ([none, none, none, none, none, none, none, none, none, none, none, none, none, none] : List (Option Nat)) (
            (fun _ => .int .i64 e1) ::
            (fun _ => .int .i64 e1) ::
            (fun _ => .bool false) ::
            (fun _ => .bool false) ::
            (fun _ => .int .i64 v1) ::
            (fun _ => .int .i64 v1) ::
            (fun _ => .bool false) ::
            (fun _ => .bool false) ::
            (fun _ => .bool false) ::
            (fun _ => .agg #[.int .i64 c1, .int .i64 k1, .int .i64 h1, .int .u64 n1]) ::
            (fun _ => .agg #[.int .i64 c1, .int .i64 k1, .int .i64 h1, .int .u64 n1]) ::
            (fun _ => .agg #[.int .i64 c1, .int .i64 k1, .int .i64 h1, .int .u64 n1]) ::
            (fun _ => .bool false) ::
            (fun _ => .bool false) :: []) ((fun _ => []) :: (fun _ => []) :: (fun _ => []) :: (fun _ => []) :: (fun _ => []) :: (fun _ => []) :: (fun _ => []) :: (fun _ => []) :: (fun _ => []) :: (fun _ => []) :: (fun _ => []) :: (fun _ => []) :: (fun _ => []) :: (fun _ => []) :: ([] : List (List Gh → List Res))) ((fun _ => []) :: (fun _ => []) :: (fun _ => []) :: (fun _ => []) :: (fun _ => []) :: (fun _ => []) :: (fun _ => []) :: (fun _ => []) :: (fun _ => []) :: (fun _ => []) :: (fun _ => []) :: (fun _ => []) :: (fun _ => []) :: (fun _ => []) :: ([] : List (List Gh → List Res))) (by kernel_rfl) (by kernel_rfl) rfl (hold_lt (n := 196) (by decide)) H.out (hold_nil (fs := []) (by decide) rfl ?_) (hold_fit (by decide)) ?_ ?_ (fun t => decide (171 ≤ t) && decide (t ≤ 184)) (by decide) ?_
        · intro s gs hs
          cases hs
        · repeat (refine StepAll.cons (by first | exact trivial | exact fun g => rfl) ?_)
          exact trivial
        ·
          refine StepAll.cons ?_ ?_
          · refine HoldStep.val (by decide) fun a wx γ hn hr Ss hH K hK => ?_
            have e12 : a.eval (.tmp 12) = .int .i64 e1 := (hr 12 (by decide)).trans rfl
            exact hold_run (v := .int .i64 e1) (by clear hn hr hK; generalize a.eval = ρ at *; simp [execOp, e12, go_sem]) rfl rfl hH hK
          refine StepAll.cons ?_ ?_
          · refine HoldStep.val (by decide) fun a wx γ hn hr Ss hH K hK => ?_
            have e13 : a.eval (.tmp 13) = .int .i64 e1 := (hr 13 (by decide)).trans rfl
            exact hold_run (v := .int .i64 e1) (by clear hn hr hK; generalize a.eval = ρ at *; simp [execOp, e13, go_sem]) rfl rfl hH hK
          refine StepAll.cons ?_ ?_
          · refine HoldStep.val (by decide) fun a wx γ hn hr Ss hH K hK => ?_
            have e171 : a.eval (.tmp 171) = .int .i64 e1 := hn 0 (by decide) 171 rfl
            have e172 : a.eval (.tmp 172) = .int .i64 e1 := hn 1 (by decide) 172 rfl
            exact hold_run (v := .bool false) (by clear hn hr hK; generalize a.eval = ρ at *; simp [execOp, e171, e172, go_sem]) rfl rfl hH hK
          refine StepAll.cons ?_ ?_
          · refine HoldStep.val (by decide) fun a wx γ hn hr Ss hH K hK => ?_
            have e173 : a.eval (.tmp 173) = .bool false := hn 2 (by decide) 173 rfl
            exact hold_run (v := .bool false) (by clear hn hr hK; generalize a.eval = ρ at *; simp [execOp, e173, go_sem]) rfl rfl hH hK
          refine StepAll.cons ?_ ?_
          · refine HoldStep.val (by decide) fun a wx γ hn hr Ss hH K hK => ?_
            have e14 : a.eval (.tmp 14) = .int .i64 v1 := (hr 14 (by decide)).trans rfl
            exact hold_run (v := .int .i64 v1) (by clear hn hr hK; generalize a.eval = ρ at *; simp [execOp, e14, go_sem]) rfl rfl hH hK
          refine StepAll.cons ?_ ?_
          · refine HoldStep.val (by decide) fun a wx γ hn hr Ss hH K hK => ?_
            have e15 : a.eval (.tmp 15) = .int .i64 v1 := (hr 15 (by decide)).trans rfl
            exact hold_run (v := .int .i64 v1) (by clear hn hr hK; generalize a.eval = ρ at *; simp [execOp, e15, go_sem]) rfl rfl hH hK
          refine StepAll.cons ?_ ?_
          · refine HoldStep.val (by decide) fun a wx γ hn hr Ss hH K hK => ?_
            have e175 : a.eval (.tmp 175) = .int .i64 v1 := hn 4 (by decide) 175 rfl
            have e176 : a.eval (.tmp 176) = .int .i64 v1 := hn 5 (by decide) 176 rfl
            exact hold_run (v := .bool false) (by clear hn hr hK; generalize a.eval = ρ at *; simp [execOp, e175, e176, go_sem]) rfl rfl hH hK
          refine StepAll.cons ?_ ?_
          · refine HoldStep.val (by decide) fun a wx γ hn hr Ss hH K hK => ?_
            have e174 : a.eval (.tmp 174) = .bool false := hn 3 (by decide) 174 rfl
            have e177 : a.eval (.tmp 177) = .bool false := hn 6 (by decide) 177 rfl
            exact hold_run (v := .bool false) (by clear hn hr hK; generalize a.eval = ρ at *; simp [execOp, e174, e177, go_sem]) rfl rfl hH hK
          refine StepAll.cons ?_ ?_
          · refine HoldStep.val (by decide) fun a wx γ hn hr Ss hH K hK => ?_
            have e178 : a.eval (.tmp 178) = .bool false := hn 7 (by decide) 178 rfl
            exact hold_run (v := .bool false) (by clear hn hr hK; generalize a.eval = ρ at *; simp [execOp, e178, go_sem]) rfl rfl hH hK
          refine StepAll.cons ?_ ?_
          · refine HoldStep.val (by decide) fun a wx γ hn hr Ss hH K hK => ?_
            have e16 : a.eval (.tmp 16) = .pointer (some ⟨ka, 0, none⟩) := (hr 16 (by decide)).trans rfl
            have hB := Hd.rear hH
            have kA0 := (cell_of_heap (Hd.nthk 2 hB rfl) 0).trans (show _ = some (.int .i64 c1) from rfl)
            have kA1 := (cell_of_heap (Hd.nthk 2 hB rfl) 1).trans (show _ = some (.int .i64 k1) from rfl)
            have kA2 := (cell_of_heap (Hd.nthk 2 hB rfl) 2).trans (show _ = some (.int .i64 h1) from rfl)
            have kA3 := (cell_of_heap (Hd.nthk 2 hB rfl) 3).trans (show _ = some (.int .u64 n1) from rfl)
            exact hold_run (v := .agg #[.int .i64 c1, .int .i64 k1, .int .i64 h1, .int .u64 n1]) (by clear hn hr hK; generalize a.eval = ρ at *; simp [execOp, e16, kA0, kA1, kA2, kA3, go_sem]) rfl rfl hH hK
          refine StepAll.cons ?_ ?_
          · refine HoldStep.val (by decide) fun a wx γ hn hr Ss hH K hK => ?_
            have e180 : a.eval (.tmp 180) = .agg #[.int .i64 c1, .int .i64 k1, .int .i64 h1, .int .u64 n1] := hn 9 (by decide) 180 rfl
            have ef : a.eval (.func 23) = .func (.func 23) #[] #[] := rfl
            exact hold_call (by clear hn hr hK hH; generalize a.eval = ρ at *; simp [execOp, e180, cf23, ef, go_sem]) ((ref7_h c1 k1 h1 n1 wx).mono fun e w2 h => by obtain ⟨x, h1, h2⟩ := h; exact ⟨x, h1, h2 _⟩) hH hK
          refine StepAll.cons ?_ ?_
          · refine HoldStep.val (by decide) fun a wx γ hn hr Ss hH K hK => ?_
            have e17 : a.eval (.tmp 17) = .pointer (some ⟨kb, 0, none⟩) := (hr 17 (by decide)).trans rfl
            have hB := Hd.rear hH
            have kB0 := (cell_of_heap (Hd.nthk 0 hB rfl) 0).trans (show _ = some (.int .i64 c1) from rfl)
            have kB1 := (cell_of_heap (Hd.nthk 0 hB rfl) 1).trans (show _ = some (.int .i64 k1) from rfl)
            have kB2 := (cell_of_heap (Hd.nthk 0 hB rfl) 2).trans (show _ = some (.int .i64 h1) from rfl)
            have kB3 := (cell_of_heap (Hd.nthk 0 hB rfl) 3).trans (show _ = some (.int .u64 n1) from rfl)
            exact hold_run (v := .agg #[.int .i64 c1, .int .i64 k1, .int .i64 h1, .int .u64 n1]) (by clear hn hr hK; generalize a.eval = ρ at *; simp [execOp, e17, kB0, kB1, kB2, kB3, go_sem]) rfl rfl hH hK
          refine StepAll.cons ?_ ?_
          · refine HoldStep.val (by decide) fun a wx γ hn hr Ss hH K hK => ?_
            have e181 : a.eval (.tmp 181) = .agg #[.int .i64 c1, .int .i64 k1, .int .i64 h1, .int .u64 n1] := hn 10 (by decide) 181 rfl
            have e182 : a.eval (.tmp 182) = .agg #[.int .i64 c1, .int .i64 k1, .int .i64 h1, .int .u64 n1] := hn 11 (by decide) 182 rfl
            exact hold_run (v := .bool false) (by clear hn hr hK; generalize a.eval = ρ at *; simp [execOp, e181, e182, go_sem]) rfl rfl hH hK
          refine StepAll.cons ?_ ?_
          · refine HoldStep.val (by decide) fun a wx γ hn hr Ss hH K hK => ?_
            have e179 : a.eval (.tmp 179) = .bool false := hn 8 (by decide) 179 rfl
            have e183 : a.eval (.tmp 183) = .bool false := hn 12 (by decide) 183 rfl
            exact hold_run (v := .bool false) (by clear hn hr hK; generalize a.eval = ρ at *; simp [execOp, e179, e183, go_sem]) rfl rfl hH hK
          exact trivial
        intro f w9 g9 hv h9
        have er184 : f 184 = .bool false := hv 13 184 rfl
        have hd : Hd W w9 ([] ++ [Blk (kb) (.cells #[.int .i64 c1, .int .i64 k1, .int .i64 h1, .int .u64 n1] 31 (0, 0)), RSto b' L1 1000, Blk (ka) (.cells #[.int .i64 c1, .int .i64 k1, .int .i64 h1, .int .u64 n1] 25 (0, 0)), Sto b L1 1000, Blk (w2.heap.size) (.cells #[.int .i64 ck, .int .i64 k, .int .i64 h, .int .u64 n] 31 (0, 0)), Blk (W.heap.size) (.cells #[.int .i64 ck, .int .i64 k, .int .i64 h, .int .u64 n] 25 (0, 0))]) := h9
        simp only [List.nil_append] at hd
        clear hv h9  cf23
        clear g9
        simp only [patchG, Nat.reduceAdd, Nat.reduceLeDiff, decide_true, decide_false, Bool.and_true, Bool.and_false, cond_true, cond_false, er184]
        clear er184
        clear H
        have H := hid hd
        clear hd
        by_cases he : e1 = 0
        · have de : decide (e1 = 0) = true := by simpa using he
          have de2 : (e1 == 0) = true := by simpa using he
          clear he
          have hk := Hd.nthk 2 H.out rfl
          have aa0 := (cell_of_heap hk 0).trans (show _ = some (.int .i64 c1) from rfl)
          have aa1 := (cell_of_heap hk 1).trans (show _ = some (.int .i64 k1) from rfl)
          have aa2 := (cell_of_heap hk 2).trans (show _ = some (.int .i64 h1) from rfl)
          have aa3 := (cell_of_heap hk 3).trans (show _ = some (.int .u64 n1) from rfl)
          have aas := (Array.getElem?_eq_some_iff.1 hk).1
          clear hk
          have hk := Hd.nthk 0 H.out rfl
          have bb0 := (cell_of_heap hk 0).trans (show _ = some (.int .i64 c1) from rfl)
          have bb1 := (cell_of_heap hk 1).trans (show _ = some (.int .i64 k1) from rfl)
          have bb2 := (cell_of_heap hk 2).trans (show _ = some (.int .i64 h1) from rfl)
          have bb3 := (cell_of_heap hk 3).trans (show _ = some (.int .u64 n1) from rfl)
          have bbs := (Array.getElem?_eq_some_iff.1 hk).1
          clear hk
          have hk := Hd.nthk 5 H.out rfl
          have y0 := (cell_of_heap hk 0).trans (show _ = some (.int .i64 ck) from rfl)
          have y1 := (cell_of_heap hk 1).trans (show _ = some (.int .i64 k) from rfl)
          have y2 := (cell_of_heap hk 2).trans (show _ = some (.int .i64 h) from rfl)
          have y3 := (cell_of_heap hk 3).trans (show _ = some (.int .u64 n) from rfl)
          have ys := (Array.getElem?_eq_some_iff.1 hk).1
          have yf := frozen_of_heap hk
          clear hk
          have hk := Hd.nthk 4 H.out rfl
          have z0 := (cell_of_heap hk 0).trans (show _ = some (.int .i64 ck) from rfl)
          have z1 := (cell_of_heap hk 1).trans (show _ = some (.int .i64 k) from rfl)
          have z2 := (cell_of_heap hk 2).trans (show _ = some (.int .i64 h) from rfl)
          have z3 := (cell_of_heap hk 3).trans (show _ = some (.int .u64 n) from rfl)
          have zs := (Array.getElem?_eq_some_iff.1 hk).1
          have zf := frozen_of_heap hk
          clear hk
          have zBY := blks_ne7 (((H.out.front 5 rfl).front 1 rfl))
          have zBZ := blks_ne7 (((H.out.front 4 rfl).front 1 rfl))
          have zAY := blks_ne7 (((H.out.front 5 rfl).front 3 rfl))
          have zZY := blks_ne7 (((H.out.front 5 rfl).front 5 rfl))
          go_wp2_with fail
          go_roundw
          case rel => exact ⟨j + 1, by omega, by go_num, L1, c1, k1, h1, n1, HF, hid (Hd.dropEnd7 (Rs := [Sto b L1 1000, RSto b' L1 1000, RBox w2.heap.size c1 k1 h1 n1, SBox W.heap.size c1 k1 h1 n1]) ((((((((((((H.out.front 5 rfl).set 0 (.int .i64 c1)).set 1 (.int .i64 k1)).set 2 (.int .i64 h1)).set 3 (.int .u64 n1)).front 5 rfl).set 0 (.int .i64 c1)).set 1 (.int .i64 k1)).set 2 (.int .i64 h1)).set 3 (.int .u64 n1)).front 3 rfl).front 5 rfl))⟩
          case measure => simp [intOf]; omega
        · have de : decide (e1 = 0) = false := by simpa using he
          have de2 : (e1 == 0) = false := by simpa using he
          clear he
          go_wp2_with fail
          go_roundw
          case rel => exact ⟨j + 1, by omega, by go_num, L1, ck, k, h, n, HN, hid (Hd.dropEnd7 (Rs := [Sto b L1 1000, RSto b' L1 1000, RBox w2.heap.size ck k h n, SBox W.heap.size ck k h n]) ((((H.out.front 5 rfl).front 5 rfl).front 3 rfl).front 5 rfl))⟩
          case measure => simp [intOf]; omega
      · rw [hu] at h7
        clear hu
        obtain ⟨⟨p1, q1, e1, L1⟩, hR⟩ : ∃ r, sSplit 1000 L ⟨ck, k, h, n⟩ = r := ⟨_, rfl⟩
        have HR := hid hR
        clear hR
        have H9 := hid (H.out.front 2 rfl)
        clear H
        have H := H9
        clear H9
        have hk := Hd.nthk 5 H.out rfl
        have y0 := (cell_of_heap hk 0).trans (show _ = some (.int .i64 ck) from rfl)
        have y1 := (cell_of_heap hk 1).trans (show _ = some (.int .i64 k) from rfl)
        have y2 := (cell_of_heap hk 2).trans (show _ = some (.int .i64 h) from rfl)
        have y3 := (cell_of_heap hk 3).trans (show _ = some (.int .u64 n) from rfl)
        have ys := (Array.getElem?_eq_some_iff.1 hk).1
        clear hk
        go_wp2_with fail
        refine (ssplit_calls ck k h n H.out).mono ?_
        rw [HR.out]
        dsimp only
        rintro e w6 ⟨rfl, hd⟩
        clear y0 y1 y2 y3 ys H c0
        have H := hid hd
        clear hd
        have hk := Hd.nthk 4 H.out rfl
        have z0 := (cell_of_heap hk 0).trans (show _ = some (.int .i64 ck) from rfl)
        have z1 := (cell_of_heap hk 1).trans (show _ = some (.int .i64 k) from rfl)
        have z2 := (cell_of_heap hk 2).trans (show _ = some (.int .i64 h) from rfl)
        have z3 := (cell_of_heap hk 3).trans (show _ = some (.int .u64 n) from rfl)
        have zs := (Array.getElem?_eq_some_iff.1 hk).1
        clear hk
        go_wp2_with fail
        clear z0 z1 z2 z3 zs
        have H9 := hid (H.out.front 3 rfl)
        clear H
        have H := H9
        clear H9
        refine (rssplit_calls ck k h n H.out).mono ?_
        rw [HR.out]
        dsimp only
        rintro e w8 ⟨rfl, hd⟩
        clear H
        have H := hid hd
        clear hd
        go_wp2_with fail
        have cf23 : ∀ args w, (callFunc 23 args).run Try.prog w = .ok (.enter 23 args) w := fun args w => by kernel_rfl
        refine wp_region_hold [[], [], [0, 1], [2], [3], [3], [3, 4, 5], [3, 6], [7], [8], [8, 9], [8], [8, 10, 11], [8, 12]] [[], [], [], [], [], [], [], [], [], [], [], [], [], []] ([some 171, some 172, some 173, some 174, some 175, some 176, some 177, some 178, some 179, some 180, some 181, some 182, some 183, some 184] : List (Option Nat)) ([none, none, none, none, none, none, none, none, none, none, none, none, none, none] : List (Option Nat)) (
            (fun _ => .int .i64 0) ::
            (fun _ => .int .i64 0) ::
            (fun _ => .bool false) ::
            (fun _ => .bool false) ::
            (fun _ => .int .i64 0) ::
            (fun _ => .int .i64 0) ::
            (fun _ => .bool false) ::
            (fun _ => .bool false) ::
            (fun _ => .bool false) ::
            (fun _ => .agg #[.int .i64 ck, .int .i64 k, .int .i64 h, .int .u64 n]) ::
            (fun _ => .agg #[.int .i64 ck, .int .i64 k, .int .i64 h, .int .u64 n]) ::
            (fun _ => .agg #[.int .i64 ck, .int .i64 k, .int .i64 h, .int .u64 n]) ::
            (fun _ => .bool false) ::
            (fun _ => .bool false) :: []) ((fun _ => []) :: (fun _ => []) :: (fun _ => []) :: (fun _ => []) :: (fun _ => []) :: (fun _ => []) :: (fun _ => []) :: (fun _ => []) :: (fun _ => []) :: (fun _ => []) :: (fun _ => []) :: (fun _ => []) :: (fun _ => []) :: (fun _ => []) :: ([] : List (List Gh → List Res))) ((fun _ => []) :: (fun _ => []) :: (fun _ => []) :: (fun _ => []) :: (fun _ => []) :: (fun _ => []) :: (fun _ => []) :: (fun _ => []) :: (fun _ => []) :: (fun _ => []) :: (fun _ => []) :: (fun _ => []) :: (fun _ => []) :: (fun _ => []) :: ([] : List (List Gh → List Res))) (by kernel_rfl) (by kernel_rfl) rfl (hold_lt (n := 196) (by decide)) H.out (hold_nil (fs := []) (by decide) rfl ?_) (hold_fit (by decide)) ?_ ?_ (fun t => decide (171 ≤ t) && decide (t ≤ 184)) (by decide) ?_
        · intro s gs hs
          cases hs
        · repeat (refine StepAll.cons (by first | exact trivial | exact fun g => rfl) ?_)
          exact trivial
        ·
          refine StepAll.cons ?_ ?_
          · refine HoldStep.val (by decide) fun a wx γ hn hr Ss hH K hK => ?_
            have e12 : a.eval (.tmp 12) = .int .i64 0 := (hr 12 (by decide)).trans rfl
            exact hold_run (v := .int .i64 0) (by clear hn hr hK; generalize a.eval = ρ at *; simp [execOp, e12, go_sem]) rfl rfl hH hK
          refine StepAll.cons ?_ ?_
          · refine HoldStep.val (by decide) fun a wx γ hn hr Ss hH K hK => ?_
            have e13 : a.eval (.tmp 13) = .int .i64 0 := (hr 13 (by decide)).trans rfl
            exact hold_run (v := .int .i64 0) (by clear hn hr hK; generalize a.eval = ρ at *; simp [execOp, e13, go_sem]) rfl rfl hH hK
          refine StepAll.cons ?_ ?_
          · refine HoldStep.val (by decide) fun a wx γ hn hr Ss hH K hK => ?_
            have e171 : a.eval (.tmp 171) = .int .i64 0 := hn 0 (by decide) 171 rfl
            have e172 : a.eval (.tmp 172) = .int .i64 0 := hn 1 (by decide) 172 rfl
            exact hold_run (v := .bool false) (by clear hn hr hK; generalize a.eval = ρ at *; simp [execOp, e171, e172, go_sem]) rfl rfl hH hK
          refine StepAll.cons ?_ ?_
          · refine HoldStep.val (by decide) fun a wx γ hn hr Ss hH K hK => ?_
            have e173 : a.eval (.tmp 173) = .bool false := hn 2 (by decide) 173 rfl
            exact hold_run (v := .bool false) (by clear hn hr hK; generalize a.eval = ρ at *; simp [execOp, e173, go_sem]) rfl rfl hH hK
          refine StepAll.cons ?_ ?_
          · refine HoldStep.val (by decide) fun a wx γ hn hr Ss hH K hK => ?_
            have e14 : a.eval (.tmp 14) = .int .i64 0 := (hr 14 (by decide)).trans rfl
            exact hold_run (v := .int .i64 0) (by clear hn hr hK; generalize a.eval = ρ at *; simp [execOp, e14, go_sem]) rfl rfl hH hK
          refine StepAll.cons ?_ ?_
          · refine HoldStep.val (by decide) fun a wx γ hn hr Ss hH K hK => ?_
            have e15 : a.eval (.tmp 15) = .int .i64 0 := (hr 15 (by decide)).trans rfl
            exact hold_run (v := .int .i64 0) (by clear hn hr hK; generalize a.eval = ρ at *; simp [execOp, e15, go_sem]) rfl rfl hH hK
          refine StepAll.cons ?_ ?_
          · refine HoldStep.val (by decide) fun a wx γ hn hr Ss hH K hK => ?_
            have e175 : a.eval (.tmp 175) = .int .i64 0 := hn 4 (by decide) 175 rfl
            have e176 : a.eval (.tmp 176) = .int .i64 0 := hn 5 (by decide) 176 rfl
            exact hold_run (v := .bool false) (by clear hn hr hK; generalize a.eval = ρ at *; simp [execOp, e175, e176, go_sem]) rfl rfl hH hK
          refine StepAll.cons ?_ ?_
          · refine HoldStep.val (by decide) fun a wx γ hn hr Ss hH K hK => ?_
            have e174 : a.eval (.tmp 174) = .bool false := hn 3 (by decide) 174 rfl
            have e177 : a.eval (.tmp 177) = .bool false := hn 6 (by decide) 177 rfl
            exact hold_run (v := .bool false) (by clear hn hr hK; generalize a.eval = ρ at *; simp [execOp, e174, e177, go_sem]) rfl rfl hH hK
          refine StepAll.cons ?_ ?_
          · refine HoldStep.val (by decide) fun a wx γ hn hr Ss hH K hK => ?_
            have e178 : a.eval (.tmp 178) = .bool false := hn 7 (by decide) 178 rfl
            exact hold_run (v := .bool false) (by clear hn hr hK; generalize a.eval = ρ at *; simp [execOp, e178, go_sem]) rfl rfl hH hK
          refine StepAll.cons ?_ ?_
          · refine HoldStep.val (by decide) fun a wx γ hn hr Ss hH K hK => ?_
            have e16 : a.eval (.tmp 16) = .pointer (some ⟨ka, 0, none⟩) := (hr 16 (by decide)).trans rfl
            have hB := Hd.rear hH
            have kA0 := (cell_of_heap (Hd.nthk 2 hB rfl) 0).trans (show _ = some (.int .i64 ck) from rfl)
            have kA1 := (cell_of_heap (Hd.nthk 2 hB rfl) 1).trans (show _ = some (.int .i64 k) from rfl)
            have kA2 := (cell_of_heap (Hd.nthk 2 hB rfl) 2).trans (show _ = some (.int .i64 h) from rfl)
            have kA3 := (cell_of_heap (Hd.nthk 2 hB rfl) 3).trans (show _ = some (.int .u64 n) from rfl)
            exact hold_run (v := .agg #[.int .i64 ck, .int .i64 k, .int .i64 h, .int .u64 n]) (by clear hn hr hK; generalize a.eval = ρ at *; simp [execOp, e16, kA0, kA1, kA2, kA3, go_sem]) rfl rfl hH hK
          refine StepAll.cons ?_ ?_
          · refine HoldStep.val (by decide) fun a wx γ hn hr Ss hH K hK => ?_
            have e180 : a.eval (.tmp 180) = .agg #[.int .i64 ck, .int .i64 k, .int .i64 h, .int .u64 n] := hn 9 (by decide) 180 rfl
            have ef : a.eval (.func 23) = .func (.func 23) #[] #[] := rfl
            exact hold_call (by clear hn hr hK hH; generalize a.eval = ρ at *; simp [execOp, e180, cf23, ef, go_sem]) ((ref7_h ck k h n wx).mono fun e w2 h => by obtain ⟨x, h1, h2⟩ := h; exact ⟨x, h1, h2 _⟩) hH hK
          refine StepAll.cons ?_ ?_
          · refine HoldStep.val (by decide) fun a wx γ hn hr Ss hH K hK => ?_
            have e17 : a.eval (.tmp 17) = .pointer (some ⟨kb, 0, none⟩) := (hr 17 (by decide)).trans rfl
            have hB := Hd.rear hH
            have kB0 := (cell_of_heap (Hd.nthk 3 hB rfl) 0).trans (show _ = some (.int .i64 ck) from rfl)
            have kB1 := (cell_of_heap (Hd.nthk 3 hB rfl) 1).trans (show _ = some (.int .i64 k) from rfl)
            have kB2 := (cell_of_heap (Hd.nthk 3 hB rfl) 2).trans (show _ = some (.int .i64 h) from rfl)
            have kB3 := (cell_of_heap (Hd.nthk 3 hB rfl) 3).trans (show _ = some (.int .u64 n) from rfl)
            exact hold_run (v := .agg #[.int .i64 ck, .int .i64 k, .int .i64 h, .int .u64 n]) (by clear hn hr hK; generalize a.eval = ρ at *; simp [execOp, e17, kB0, kB1, kB2, kB3, go_sem]) rfl rfl hH hK
          refine StepAll.cons ?_ ?_
          · refine HoldStep.val (by decide) fun a wx γ hn hr Ss hH K hK => ?_
            have e181 : a.eval (.tmp 181) = .agg #[.int .i64 ck, .int .i64 k, .int .i64 h, .int .u64 n] := hn 10 (by decide) 181 rfl
            have e182 : a.eval (.tmp 182) = .agg #[.int .i64 ck, .int .i64 k, .int .i64 h, .int .u64 n] := hn 11 (by decide) 182 rfl
            exact hold_run (v := .bool false) (by clear hn hr hK; generalize a.eval = ρ at *; simp [execOp, e181, e182, go_sem]) rfl rfl hH hK
          refine StepAll.cons ?_ ?_
          · refine HoldStep.val (by decide) fun a wx γ hn hr Ss hH K hK => ?_
            have e179 : a.eval (.tmp 179) = .bool false := hn 8 (by decide) 179 rfl
            have e183 : a.eval (.tmp 183) = .bool false := hn 12 (by decide) 183 rfl
            exact hold_run (v := .bool false) (by clear hn hr hK; generalize a.eval = ρ at *; simp [execOp, e179, e183, go_sem]) rfl rfl hH hK
          exact trivial
        intro f w9 g9 hv h9
        have er184 : f 184 = .bool false := hv 13 184 rfl
        have hd : Hd W w9 ([] ++ [RSto b' L1 1000, Sto b L1 1000, Blk (ka) (.cells #[.int .i64 ck, .int .i64 k, .int .i64 h, .int .u64 n] 25 (0, 0)), Blk (kb) (.cells #[.int .i64 ck, .int .i64 k, .int .i64 h, .int .u64 n] 31 (0, 0)), Blk (w2.heap.size) (.cells #[.int .i64 ck, .int .i64 k, .int .i64 h, .int .u64 n] 31 (0, 0)), Blk (W.heap.size) (.cells #[.int .i64 ck, .int .i64 k, .int .i64 h, .int .u64 n] 25 (0, 0))]) := h9
        simp only [List.nil_append] at hd
        clear hv h9  cf23
        clear g9
        simp only [patchG, Nat.reduceAdd, Nat.reduceLeDiff, decide_true, decide_false, Bool.and_true, Bool.and_false, cond_true, cond_false, er184]
        clear er184
        clear H
        have H := hid hd
        clear hd
        have hk := Hd.nthk 2 H.out rfl
        have aa0 := (cell_of_heap hk 0).trans (show _ = some (.int .i64 ck) from rfl)
        have aa1 := (cell_of_heap hk 1).trans (show _ = some (.int .i64 k) from rfl)
        have aa2 := (cell_of_heap hk 2).trans (show _ = some (.int .i64 h) from rfl)
        have aa3 := (cell_of_heap hk 3).trans (show _ = some (.int .u64 n) from rfl)
        have aas := (Array.getElem?_eq_some_iff.1 hk).1
        clear hk
        have hk := Hd.nthk 3 H.out rfl
        have bb0 := (cell_of_heap hk 0).trans (show _ = some (.int .i64 ck) from rfl)
        have bb1 := (cell_of_heap hk 1).trans (show _ = some (.int .i64 k) from rfl)
        have bb2 := (cell_of_heap hk 2).trans (show _ = some (.int .i64 h) from rfl)
        have bb3 := (cell_of_heap hk 3).trans (show _ = some (.int .u64 n) from rfl)
        have bbs := (Array.getElem?_eq_some_iff.1 hk).1
        clear hk
        have hk := Hd.nthk 5 H.out rfl
        have y0 := (cell_of_heap hk 0).trans (show _ = some (.int .i64 ck) from rfl)
        have y1 := (cell_of_heap hk 1).trans (show _ = some (.int .i64 k) from rfl)
        have y2 := (cell_of_heap hk 2).trans (show _ = some (.int .i64 h) from rfl)
        have y3 := (cell_of_heap hk 3).trans (show _ = some (.int .u64 n) from rfl)
        have ys := (Array.getElem?_eq_some_iff.1 hk).1
        have yf := frozen_of_heap hk
        clear hk
        have hk := Hd.nthk 4 H.out rfl
        have z0 := (cell_of_heap hk 0).trans (show _ = some (.int .i64 ck) from rfl)
        have z1 := (cell_of_heap hk 1).trans (show _ = some (.int .i64 k) from rfl)
        have z2 := (cell_of_heap hk 2).trans (show _ = some (.int .i64 h) from rfl)
        have z3 := (cell_of_heap hk 3).trans (show _ = some (.int .u64 n) from rfl)
        have zs := (Array.getElem?_eq_some_iff.1 hk).1
        have zf := frozen_of_heap hk
        clear hk
        have zBY := blks_ne7 (((H.out.front 5 rfl).front 4 rfl))
        have zBZ := blks_ne7 (((H.out.front 4 rfl).front 4 rfl))
        have zAY := blks_ne7 (((H.out.front 5 rfl).front 3 rfl))
        have zZY := blks_ne7 (((H.out.front 5 rfl).front 5 rfl))
        go_wp2_with fail
        go_roundw
        case rel => exact ⟨j + 1, by omega, by go_num, L1, ck, k, h, n, HN, hid (Hd.dropEnd7 (Rs := [Sto b L1 1000, RSto b' L1 1000, RBox w2.heap.size ck k h n, SBox W.heap.size ck k h n]) ((((((((((((H.out.front 5 rfl).set 0 (.int .i64 ck)).set 1 (.int .i64 k)).set 2 (.int .i64 h)).set 3 (.int .u64 n)).front 5 rfl).set 0 (.int .i64 ck)).set 1 (.int .i64 k)).set 2 (.int .i64 h)).set 3 (.int .u64 n)).front 2 rfl).front 3 rfl))⟩
        case measure => simp [intOf]; omega
    · have hex : decide (j < len2) = false ∨ (decide (j < len2) = true ∧ decide ((j : Int) < 20) = false) := by
        by_cases h : j < len2
        · right; exact ⟨by simpa using h, by simp; omega⟩
        · left; simpa using h
      clear hlt
      rcases hex with hd1 | ⟨hd1, hd2⟩
      · go_wp2_with fail
        refine (same2_calls H.out).mono ?_
        rintro e w5 ⟨rfl, hb5⟩
        have H2 := hid (H.out.still hb5)
        clear H hb5
        go_wp2_with fail
        refine (fixed7_calls H2.out).mono ?_
        rintro e w6 ⟨rfl, h6⟩
        have H := hid h6
        clear h6 H2
        go_wp2_with fail
        go_ret
        exact ⟨rfl, H.out.below⟩
      · go_wp2_with fail
        refine (same2_calls H.out).mono ?_
        rintro e w5 ⟨rfl, hb5⟩
        have H2 := hid (H.out.still hb5)
        clear H hb5
        go_wp2_with fail
        refine (fixed7_calls H2.out).mono ?_
        rintro e w6 ⟨rfl, h6⟩
        have H := hid h6
        clear h6 H2
        go_wp2_with fail
        go_ret
        exact ⟨rfl, H.out.below⟩
end Go.Proofs.Ytbaliaodioflfaa
