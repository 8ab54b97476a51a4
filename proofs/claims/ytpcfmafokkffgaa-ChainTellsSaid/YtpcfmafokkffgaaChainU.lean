/-
  Walks through layer 15: the document's To. For every store and every chain.
-/
import Derived.Test.YtpcfmafokkffgaaChainR
namespace Go.Proofs.Ytpcfmafokkffgaa
open Go.RowKit

def lenOf : Value → Nat
  | .slice _ n _ => n
  | _ => 0

theorem to15_old {m : Int} {L : List T} {k e x : Int} (h : x < e) : to15 m L k e x = ((0, 0), [], 12, L) := by
  unfold to15
  rw [if_pos h]
theorem to15_lim {m : Int} {L : List T} {k e x : Int} (h : 4 < x - e) : to15 m L k e x = ((0, 0), [], 13, L) := by
  unfold to15
  rw [if_neg (by omega), if_pos h]
theorem to15_of {m : Int} {L : List T} {k e x : Int} {n : Nat} (hn : e + n = x) (h4 : n ≤ 4) : to15 m L k e x = if (steps15 m n L k e).2.2.1 = 0 then ((steps15 m n L k e).2.1, (steps15 m n L k e).1, 0, (steps15 m n L k e).2.2.2) else ((0, 0), [], (steps15 m n L k e).2.2.1, (steps15 m n L k e).2.2.2) := by
  unfold to15
  rw [if_neg (by omega), if_neg (by omega), show (x - e).toNat = n by omega]

/-- Where the loop stands: what is still to come of it. -/
def ToSt (m : Int) (n : Nat) (L : List T) (k e : Int) (i : Nat) (L' : List T) (k' : Int) (pre : List Int) : Prop :=
  steps15 m n L k e = (pre ++ (steps15 m (n - i) L' k' (e + i)).1, (steps15 m (n - i) L' k' (e + i)).2)

theorem ToSt.start {m : Int} {n : Nat} {L : List T} {k e : Int} : ToSt m n L k e 0 L k [] := by simp [ToSt]
theorem ToSt.seal {m : Int} {n i : Nat} {L L' L1 : List T} {k e k' p1 p2 : Int} {pre : List Int} (h : ToSt m n L k e i L' k' pre) (hi : i < n) (hp : put m L' (keyT k' 1) = (p1, p2, L1)) (h0 : p2 ≠ 0) :
    (steps15 m n L k e).2.2.1 = p2 ∧ (steps15 m n L k e).2.2.2 = L1 := by
  unfold ToSt at h
  rw [show n - i = (n - i - 1) + 1 by omega, steps15_succ, hp] at h
  dsimp only at h
  rw [if_neg h0] at h
  rw [h]
  exact ⟨rfl, rfl⟩
theorem ToSt.next {m : Int} {n i : Nat} {L L' L1 L2 : List T} {k e k' p1 r2 : Int} {d : Int × Int} {pre : List Int} (h : ToSt m n L k e i L' k' pre) (hi : i < n) (hp : put m L' (keyT k' 1) = (p1, 0, L1)) (hn : next15 m L1 k' (e + i) = (d, r2, L2)) (h0 : r2 ≠ 0) :
    (steps15 m n L k e).2.2.1 = r2 ∧ (steps15 m n L k e).2.2.2 = L2 := by
  unfold ToSt at h
  rw [show n - i = (n - i - 1) + 1 by omega, steps15_succ, hp] at h
  dsimp only at h
  rw [if_pos rfl, hn] at h
  dsimp only at h
  rw [if_neg h0] at h
  rw [h]
  exact ⟨rfl, rfl⟩
theorem ToSt.step {m : Int} {n i : Nat} {L L' L1 L2 : List T} {k e k' p1 dk de : Int} {pre : List Int} (h : ToSt m n L k e i L' k' pre) (hi : i < n) (hp : put m L' (keyT k' 1) = (p1, 0, L1)) (hn : next15 m L1 k' (e + i) = ((dk, de), 0, L2)) :
    ToSt m n L k e (i + 1) L2 dk (pre ++ [p1]) ∧ de = e + (i + 1 : Nat) := by
  have hd := (next15_epoch hn).1
  refine ⟨?_, by omega⟩
  unfold ToSt at h ⊢
  rw [show n - i = (n - i - 1) + 1 by omega, steps15_succ, hp] at h
  dsimp only at h
  rw [if_pos rfl, hn] at h
  dsimp only at h
  rw [if_pos rfl, hd] at h
  rw [h, show n - (i + 1) = n - i - 1 by omega, show e + (((i + 1 : Nat)) : Int) = e + i + 1 by omega]
  simp
theorem ToSt.done {m : Int} {n : Nat} {L L' : List T} {k e k' : Int} {pre : List Int} (h : ToSt m n L k e n L' k' pre) : steps15 m n L k e = (pre, (k', e + n), 0, L') := by
  unfold ToSt at h
  rw [Nat.sub_self] at h
  simpa [steps15] using h

section
variable {W w : World} {Rs : List Res} {b : Nat} {L : List T} {m : Int}
set_option maxRecDepth 100000 in
set_option maxHeartbeats 8000000 in
theorem rto_calls (k e x : Int) (bx : -9223372036854775808 ≤ x) (bx' : x ≤ 9223372036854775807) (be : -9223372036854775808 ≤ e) (be' : e ≤ 9223372036854775807) (h : Hd W w (RSto b L m :: Rs)) {q : (Int × Int) × List Int × Int × List T} (hq : to15 m L k e x = q) :
    Calls Try.prog 30 #[.pointer (some ⟨b, 0, none⟩), .agg #[.int .i64 k, .int .i64 e], .int .i64 x] w fun e' w' => ∃ v, e' = .returned (.tuple #[.agg #[.int .i64 q.1.1, .int .i64 q.1.2], v, .int .i64 q.2.2.1]) ∧ Hd W w' (RowR 3 1 v q.2.1.length (nums .i64 q.2.1) :: RSto b q.2.2.2 m :: Rs) := by
  have H := hid (((h.boxk (o := .cells #[.int .i64 k, .int .i64 e] 57 (0, 0)) w.heap.size rfl).boxk (o := .cells #[.int .i64 0, .int .i64 0] 57 (0, 0)) (w.heap.size + 1) (by simp)).front 2 rfl)
  clear h
  obtain ⟨wo, hwo⟩ : ∃ wo, (w.alloc (.cells #[.int .i64 k, .int .i64 e] 57 (0, 0))).alloc (.cells #[.int .i64 0, .int .i64 0] 57 (0, 0)) = wo := ⟨_, rfl⟩
  rw [hwo] at H
  have hk := Hd.nthk 2 H.out rfl
  have c0 := (cell_of_heap hk 0).trans (show _ = some (.int .i64 k) from rfl)
  have c1 := (cell_of_heap hk 1).trans (show _ = some (.int .i64 e) from rfl)
  have cs := (Array.getElem?_eq_some_iff.1 hk).1
  clear hk
  have hk := Hd.nthk 1 H.out rfl
  have q0 := (cell_of_heap hk 0).trans (show _ = some (.int .i64 0) from rfl)
  have q1 := (cell_of_heap hk 1).trans (show _ = some (.int .i64 0) from rfl)
  have qs := (Array.getElem?_eq_some_iff.1 hk).1
  have qf := frozen_of_heap hk
  clear hk
  by_cases h1 : x < e
  · have d1 : decide (x < e) = true := by simpa using h1
    rw [to15_old h1] at hq
    have HQ := hid hq
    clear hq h1
    go_enter Try.func30, Try.ntmps30
    go_wp2_with fail
    refine bodyPost_ret (v := .tuple #[.agg #[.int .i64 0, .int .i64 0], .slice none 0 0, .int .i64 12]) (by simp [results, Try.results30, go_sem, q0, q1]) rfl ?_
    rw [← HQ.out]
    exact ⟨.slice none 0 0, rfl, Hd.row_nil15 (((((H.out.front 1 rfl).set 0 (.int .i64 0)).set 1 (.int .i64 0)).drop).un2)⟩
  have d1 : decide (x < e) = false := by simp; omega
  go_enter Try.func30, Try.ntmps30
  go_wp2_with fail
  have HQ := hid hq
  have HW := hid hwo
  clear hq hwo
  go_loopw [9, 10] (fun s9 s10 wr => ∃ a : Nat, a ≤ 5 ∧ e + a ≤ x ∧ s9 = .int .i64 a ∧ s10 = .int .i64 (e + a) ∧ wo = wr) (fun s9 _ _ => 5 - (intOf s9).toNat)
  case atStart => exact ⟨0, by omega, by omega, rfl, by simp, rfl⟩
  case round =>
    obtain ⟨a, ha, hax, rfl, rfl, rfl⟩ := hrel
    by_cases h5 : a = 5
    · have HF : Hid (4 < x - e) := hid (by omega)
      have f2 : decide ((a : Int) ≤ 4) = false := by simp; omega
      have f3 : decide (4 < (a : Int)) = true := by simp; omega
      have f5 : (e + (a : Int) != x) = true ∨ (e + (a : Int) != x) = false := by cases h : (e + (a : Int) != x) <;> simp
      rw [to15_lim HF.out] at HQ
      clear h5 ha hax
      rcases f5 with f5 | f5
      all_goals
        go_wp2_with fail
        refine bodyPost_ret (v := .tuple #[.agg #[.int .i64 0, .int .i64 0], .slice none 0 0, .int .i64 13]) (by simp [results, Try.results30, go_sem, q0, q1]) rfl ?_
        rw [← HQ.out]
        exact ⟨.slice none 0 0, rfl, Hd.row_nil15 (((((H.out.front 1 rfl).set 0 (.int .i64 0)).set 1 (.int .i64 0)).drop).un2)⟩
    by_cases hx : e + (a : Int) = x
    · have f5 : (e + (a : Int) != x) = false := by simpa using hx
      have f3 : decide (4 < (a : Int)) = false := by simp; omega
      have HX := hid hx
      have hQ := HQ.out
      rw [to15_of hx (by omega)] at hQ
      have HR := hid hQ
      have ha4 : a ≤ 4 := by omega
      clear hQ HQ h5 hx hax ha c0 c1 q0 q1 qs qf cs
      go_wp2_with fail
      have HB := hid (H.out.row_newk (E := 3) wo.heap.size rfl)
      clear H f5 f3 d1
      go_loopw [11] (fun s wr => ∃ i : Nat, i ≤ a ∧ ∃ (pa : Option Addr) (pc : Nat) (pre : List Int) (k' : Int) (L' : List T), s = .slice pa i pc ∧ Hid (ToSt m a L k e i L' k' pre) ∧ Hid (Hd W wr (RowR 3 1 (.slice pa i pc) i (nums .i64 pre) :: RSto b L' m :: Blk (w.heap.size + 1) (.cells #[.int .i64 0, .int .i64 0] 57 (0, 0)) :: Blk w.heap.size (.cells #[.int .i64 k', .int .i64 (e + i)] 57 (0, 0)) :: Rs))) (fun s _ => a - lenOf s)
      case atStart => exact ⟨0, Nat.zero_le _, _, _, [], k, L, rfl, hid .start, hid (by simpa using HB.out)⟩
      case round =>
        clear HB
        obtain ⟨i, hi, pa, pc, pre, k', L', rfl, ST, H⟩ := hrel
        obtain ⟨wl, hwl⟩ : ∃ wl : World, wl = wr := ⟨_, rfl⟩
        rw [← hwl] at H ⊢
        clear hwl wr
        by_cases hlt : i < a
        · have f5 : (e + (i : Int) != x) = true := by have := HX.out; rw [bne_iff_ne]; omega
          obtain ⟨p1, p2, L1, hs⟩ : ∃ p1 p2 L1, put m L' (keyT k' 1) = (p1, p2, L1) := ⟨_, _, _, rfl⟩
          have HS := hid hs
          have HLT := hid hlt
          clear hs hlt
          have hk := Hd.nthk 3 H.out rfl
          have ba0 := (cell_of_heap hk 0).trans (show _ = some (.int .i64 (k')) from rfl)
          have ba1 := (cell_of_heap hk 1).trans (show _ = some (.int .i64 (e + i)) from rfl)
          have bas := (Array.getElem?_eq_some_iff.1 hk).1
          clear hk
          have HB := hid (H.out.front 1 rfl)
          clear H
          go_wp2_with fail
          refine (rseal15_calls k' (e + i) HS.out HB.out).mono ?_
          rintro e2 w1 ⟨rfl, h1⟩
          clear HB ba0 ba1 bas
          have H := hid h1
          clear h1
          by_cases hz : p2 = 0
          · subst hz
            obtain ⟨⟨dk, de⟩, r2, L2, hn⟩ : ∃ d r2 L2, next15 m L1 k' (e + i) = (d, r2, L2) := ⟨_, _, _, rfl⟩
            have HN := hid hn
            clear hn
            have hk := Hd.nthk 3 H.out rfl
            have ba0 := (cell_of_heap hk 0).trans (show _ = some (.int .i64 (k')) from rfl)
            have ba1 := (cell_of_heap hk 1).trans (show _ = some (.int .i64 (e + i)) from rfl)
            have bas := (Array.getElem?_eq_some_iff.1 hk).1
            clear hk
            go_wp2_with fail
            refine (rnext15_calls k' (e + i) HN.out H.out).mono ?_
            rintro e2 w2 ⟨rfl, h1⟩
            clear H ba0 ba1 bas
            have H := hid h1
            clear h1
            by_cases hz : r2 = 0
            · subst hz
              obtain ⟨st, hde⟩ := ST.out.step HLT.out HS.out HN.out
              have ST2 := hid st
              have HDE := hid hde
              clear st ST hde
              obtain ⟨i0, hi0, hz0, hs0, hy0⟩ := info_int
              have Hi0 := hid hi0
              have Hz0 := hid hz0
              have Hs0 := hid hs0
              have Hy0 := hid hy0
              clear hi0 hz0 hs0 hy0
              have HB := hid ((H.out.bx (o := .cells #[.int .i64 dk, .int .i64 de] 57 (0, 0))).front 2 rfl)
              clear H
              go_wp2_with (at_builtin; refine append_num (k := .i64) (zs := pre) Try.underlying33 Hi0.out Hz0.out Hs0.out Hy0.out (by decide) rfl (.tmp 62) (.tmp 64) rfl HB.out (by rfl) p1 (by first | rfl | simp [Act.eval]) (by omega) ?_; intro g5 c5 w9 hq; have H := hid hq; clear hq HB; have hk := Hd.nthk 2 H.out rfl; have bb0 := (cell_of_heap hk 0).trans (show _ = some (.int .i64 (dk)) from rfl); have bb1 := (cell_of_heap hk 1).trans (show _ = some (.int .i64 (de)) from rfl); have bbs := (Array.getElem?_eq_some_iff.1 hk).1; clear hk; have hk := Hd.nthk 4 H.out rfl; have ba0 := (cell_of_heap hk 0).trans (show _ = some (.int .i64 (k')) from rfl); have ba1 := (cell_of_heap hk 1).trans (show _ = some (.int .i64 (e + i)) from rfl); have bas := (Array.getElem?_eq_some_iff.1 hk).1; have baf := frozen_of_heap hk; clear hk)
              go_roundw
              case rel =>
                refine ⟨i + 1, (by have := HLT.out; omega), _, _, pre ++ [p1], dk, L2, rfl, ST2, hid ?_⟩
                have h9 := (((H.out.front 4 rfl).set 0 (.int .i64 dk)).set 1 (.int .i64 de))
                rw [← HDE.out]
                exact ((((h9.front 4 rfl).front 3 rfl).front 3 rfl).front 4 rfl).drop
              case measure => have := HLT.out; simp [lenOf]; omega
            · have g1 : (r2 != 0) = true := by rw [bne_iff_ne]; exact hz
              have g2 : decide (r2 = 0) = false := by simpa using hz
              obtain ⟨st1, st2⟩ := ST.out.next HLT.out HS.out HN.out hz
              rw [st1, st2, if_neg hz] at HR
              clear hz st1 st2
              have hk := Hd.nthk 2 H.out rfl
              have q0 := (cell_of_heap hk 0).trans (show _ = some (.int .i64 (0)) from rfl)
              have q1 := (cell_of_heap hk 1).trans (show _ = some (.int .i64 (0)) from rfl)
              have qs := (Array.getElem?_eq_some_iff.1 hk).1
              have qf := frozen_of_heap hk
              clear hk
              go_wp2_with fail
              refine bodyPost_ret (v := .tuple #[.agg #[.int .i64 0, .int .i64 0], .slice none 0 0, .int .i64 r2]) (by simp [results, Try.results30, go_sem, q0, q1, qs]) rfl ?_
              rw [← HR.out]
              refine ⟨.slice none 0 0, rfl, ?_⟩
              first | exact Hd.row_nil15 ((((((H.out.front 2 rfl).set 0 (.int .i64 0)).set 1 (.int .i64 0)).drop).un2.un2).al) | exact Hd.row_nil15 ((((((H.out.al (o := .cells #[.int .i64 dk, .int .i64 de] 57 (0, 0))).front 2 rfl).set 0 (.int .i64 0)).set 1 (.int .i64 0)).drop).un2.un2)
          · have g1 : (p2 != 0) = true := by rw [bne_iff_ne]; exact hz
            have g2 : decide (p2 = 0) = false := by simpa using hz
            obtain ⟨st1, st2⟩ := ST.out.seal HLT.out HS.out hz
            rw [st1, st2, if_neg hz] at HR
            clear hz st1 st2
            have hk := Hd.nthk 2 H.out rfl
            have q0 := (cell_of_heap hk 0).trans (show _ = some (.int .i64 (0)) from rfl)
            have q1 := (cell_of_heap hk 1).trans (show _ = some (.int .i64 (0)) from rfl)
            have qs := (Array.getElem?_eq_some_iff.1 hk).1
            have qf := frozen_of_heap hk
            clear hk
            go_wp2_with fail
            refine bodyPost_ret (v := .tuple #[.agg #[.int .i64 0, .int .i64 0], .slice none 0 0, .int .i64 p2]) (by simp [results, Try.results30, go_sem, q0, q1]) rfl ?_
            rw [← HR.out]
            exact ⟨.slice none 0 0, rfl, Hd.row_nil15 (((((H.out.front 2 rfl).set 0 (.int .i64 0)).set 1 (.int .i64 0)).drop).un2.un2)⟩
        · obtain rfl : i = a := by omega
          have f5 : (e + (i : Int) != x) = false := by have := HX.out; simpa using this
          have st := ST.out.done
          have hR := HR.out
          rw [st] at hR
          simp only [if_true] at hR
          have HR2 := hid hR
          clear st HR hR hlt
          have hk := Hd.nthk 3 H.out rfl
          have ba0 := (cell_of_heap hk 0).trans (show _ = some (.int .i64 (k')) from rfl)
          have ba1 := (cell_of_heap hk 1).trans (show _ = some (.int .i64 (e + i)) from rfl)
          have bas := (Array.getElem?_eq_some_iff.1 hk).1
          clear hk
          have hk := Hd.nthk 2 H.out rfl
          have q0 := (cell_of_heap hk 0).trans (show _ = some (.int .i64 (0)) from rfl)
          have q1 := (cell_of_heap hk 1).trans (show _ = some (.int .i64 (0)) from rfl)
          have qs := (Array.getElem?_eq_some_iff.1 hk).1
          have qf := frozen_of_heap hk
          clear hk
          go_wp2_with fail
          refine bodyPost_ret (v := .tuple #[.agg #[.int .i64 k', .int .i64 (e + i)], .slice pa i pc, .int .i64 0]) (by simp [results, Try.results30, go_sem, q0, q1]) rfl ?_
          rw [← HR2.out]
          obtain ⟨_, _, _, hl, _⟩ := H.out.row_is
          refine ⟨.slice pa i pc, rfl, ?_⟩
          rw [← hl]
          exact (((((H.out.front 2 rfl).set 0 (.int .i64 k')).set 1 (.int .i64 (e + i))).drop).front 2 rfl).drop
    · have f5 : (e + (a : Int) != x) = true := by rw [bne_iff_ne]; exact hx
      have f2 : decide ((a : Int) ≤ 4) = true := by simp; omega
      have z1 : IntKind.i64.wrap (e + (a : Int) + 1) = e + a + 1 := IntWalk.i64_in _ (by omega)
      have z2 : IntKind.i64.wrap ((a : Int) + 1) = a + 1 := IntWalk.i64_in _ (by omega)
      go_wp2_with fail
      go_roundw
      case rel => exact ⟨a + 1, by omega, by omega, by go_num, by rw [show e + ((a + 1 : Nat) : Int) = e + a + 1 by omega], by first | rfl | trivial⟩
      case measure => simp [intOf]; omega
end
end Go.Proofs.Ytpcfmafokkffgaa
