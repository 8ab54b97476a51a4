/-
  The closure that is ranged over, and To. For every store and every chain.
-/
import Derived.Test.YtpcfmafokkffgaaChainB
import Derived.Test.YtpcfmafokkffgaaOwn
namespace Go.Proofs.Ytpcfmafokkffgaa
open Go.RowKit Go.Shelf
attribute [local go_sem] Oper.semAt_some


section
variable {W w : World} {Xs : List Res} {b : Nat} {L : List T} {m : Int}

set_option maxRecDepth 100000 in
set_option maxHeartbeats 4000000 in
theorem all_in (nn : Nat) (l : Nat) (k e x : Int) (N : Nat) (hN : N ≤ 4) (hx : x - e = N) (cb sb xb eb : Nat) (J : List Int → Int → Int → List Res → Prop)
    (hY : ∀ (mm : Nat) (pre : List Int) (lk le x dk de : Int) (Js : List Res) (w : World) (Xs : List Res), pre.length < 4 → J pre lk le Js → Hd W w (Js ++ Xs) → YieldAt Fence.wide mm Try.prog l #[.int .i64 x, .agg #[.int .i64 dk, .int .i64 de]] w fun e w' => e = .returned (.bool true) ∧ ∃ Js', J (pre ++ [x]) dk de Js' ∧ Hd W w' (Js' ++ Xs)) (Js0 : List Res) (hJ0 : J [] k e Js0)
    (h : Hd W w (Sto b L m :: Blk eb (.cells #[.int .i64 0] 34 (0, 0)) :: Blk cb (.cells #[.int .i64 k, .int .i64 e] 32 (0, 0)) :: Blk sb (.cells #[.pointer (some ⟨b, 0, none⟩)] 25 (0, 0)) :: Blk xb (.cells #[.int .i64 x] 3 (0, 0)) :: (Js0 ++ Xs))) :
    CallsIn Fence.wide nn Try.prog 54 #[.func (.yield l) #[] #[], .pointer (some ⟨cb, 0, none⟩), .pointer (some ⟨sb, 0, none⟩), .pointer (some ⟨xb, 0, none⟩), .pointer (some ⟨eb, 0, none⟩)] w fun e' w' =>
      (∃ v, e' = .returned v) ∧ ∃ pre lk le Js, ((steps15 m N L k e).2.2.1 = 0 → pre = (steps15 m N L k e).1 ∧ (lk, le) = (steps15 m N L k e).2.1) ∧ J pre lk le Js ∧ Hd W w' (Sto b (steps15 m N L k e).2.2.2 m :: Blk eb (.cells #[.int .i64 (steps15 m N L k e).2.2.1] 34 (0, 0)) :: Blk cb (.cells #[.int .i64 k, .int .i64 e] 32 (0, 0)) :: Blk sb (.cells #[.pointer (some ⟨b, 0, none⟩)] 25 (0, 0)) :: Blk xb (.cells #[.int .i64 x] 3 (0, 0)) :: (Js ++ Xs)) := by
  have H := hid h
  clear h
  have HY := hid hY
  clear hY
  have HX := hid hx
  have hxw : IntKind.i64.wrap (x - e) = (N : Int) := by rw [IntWalk.i64_in _ (by omega)]; exact hx
  clear hx
  have hk := Hd.nthk 2 H.out rfl
  have c0 := (cell_of_heap hk 0).trans (show _ = some (.int .i64 k) from rfl)
  have c1 := (cell_of_heap hk 1).trans (show _ = some (.int .i64 e) from rfl)
  have cs := (Array.getElem?_eq_some_iff.1 hk).1
  clear hk
  have hk := Hd.nthk 3 H.out rfl
  have s0 := (cell_of_heap hk 0).trans (show _ = some (.pointer (some ⟨b, 0, none⟩)) from rfl)
  have ss := (Array.getElem?_eq_some_iff.1 hk).1
  clear hk
  have hk := Hd.nthk 4 H.out rfl
  have x0 := (cell_of_heap hk 0).trans (show _ = some (.int .i64 x) from rfl)
  have xs := (Array.getElem?_eq_some_iff.1 hk).1
  clear hk
  refine callsIn_of_wp Try.func54 rfl trivial ?_ rfl
  simp only [Try.ntmps54, List.size_toArray, List.length_cons, List.length_nil, Nat.reduceAdd, Nat.reduceSub, Array.replicate_succ, Array.replicate_zero, List.push_toArray, List.append_toArray, List.nil_append, List.cons_append]
  gi_wp2
  refine ⟨trivial, fun h => (by cases h), ?_⟩
  refine (callsIn_wide.2 (steps_calls k e N b H.out)).mono ?_
  rintro e' w2 ⟨c, rfl, hd⟩
  have H9 := hid hd
  clear c0 c1 cs s0 ss x0 xs hd H hxw
  have H := H9
  clear H9
  gi_wp2
  refine ⟨trivial, fun h => (by cases h), ?_⟩
  have H9 : Hid (Hd W w2 (Sto b L m :: Blk c (.cells #[.int .i64 k, .int .i64 e] 32 (0, 0)) :: Blk (c + 1) (.cells #[.pointer (some ⟨b, 0, none⟩)] 25 (0, 0)) :: Blk (c + 2) (.cells #[.int .i64 N] 3 (0, 0)) :: (Js0 ++ ([Blk eb (.cells #[.int .i64 0] 34 (0, 0)), Blk cb (.cells #[.int .i64 k, .int .i64 e] 32 (0, 0)), Blk sb (.cells #[.pointer (some ⟨b, 0, none⟩)] 25 (0, 0)), Blk xb (.cells #[.int .i64 x] 3 (0, 0))] ++ Xs)))) := hid (Hd.perm (List.Perm.append_left [Sto b L m, Blk c (.cells #[.int .i64 k, .int .i64 e] 32 (0, 0)), Blk (c + 1) (.cells #[.pointer (some ⟨b, 0, none⟩)] 25 (0, 0)), Blk (c + 2) (.cells #[.int .i64 N] 3 (0, 0))] (swap_mid (A := [Blk eb (.cells #[.int .i64 0] 34 (0, 0)), Blk cb (.cells #[.int .i64 k, .int .i64 e] 32 (0, 0)), Blk sb (.cells #[.pointer (some ⟨b, 0, none⟩)] 25 (0, 0)), Blk xb (.cells #[.int .i64 x] 3 (0, 0))]))) (((((H.out.front 0 rfl).front 1 rfl).front 2 rfl).front 3 rfl)))
  clear H
  refine (steps1_in _ l k e N hN c J HY.out Js0 hJ0 H9.out).mono ?_
  rintro e3 w3 ⟨rfl, pre, lk, le, Js, hp, hJ, hd⟩
  obtain ⟨r, hr⟩ : ∃ r, steps15 m N L k e = r := ⟨_, rfl⟩
  have HRR := hid hr
  rw [hr] at hp hd
  obtain ⟨rk, rl, re, rL⟩ := r
  dsimp only at hp hd
  have H := hid (Hd.perm (List.Perm.append_left [Sto b rL m] (swap_mid (B := [Blk eb (.cells #[.int .i64 0] 34 (0, 0)), Blk cb (.cells #[.int .i64 k, .int .i64 e] 32 (0, 0)), Blk sb (.cells #[.pointer (some ⟨b, 0, none⟩)] 25 (0, 0)), Blk xb (.cells #[.int .i64 x] 3 (0, 0))]))) hd)
  clear hd H9 hr
  have HJ := hid hJ
  have HP := hid hp
  clear hp hJ
  have hk := Hd.nthk 1 H.out rfl
  have q0 := (cell_of_heap hk 0).trans (show _ = some (.int .i64 0) from rfl)
  have qs := (Array.getElem?_eq_some_iff.1 hk).1
  have qf := frozen_of_heap hk
  clear hk
  gi_wp2
  go_end0
  rw [HRR.out]
  exact ⟨⟨_, rfl⟩, pre, lk, le, Js, HP.out, HJ.out, ((((H.out.front 1 rfl).set 0 (.int .i64 re)).front 1 rfl))⟩
end
end Go.Proofs.Ytpcfmafokkffgaa
