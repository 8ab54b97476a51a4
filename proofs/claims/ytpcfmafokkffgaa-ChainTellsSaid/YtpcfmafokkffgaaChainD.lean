/-
  A range over the closure that hands the steps on, whatever its body's text. For every store and every chain.
-/
import Derived.Test.YtpcfmafokkffgaaChainC
import Derived.Test.YtpcfmafokkffgaaHoldB
import Derived.RangeFuncRecord
namespace Go.Proofs.Ytpcfmafokkffgaa
open Go.RowKit Go.Shelf
attribute [local go_sem] Oper.semAt_some

/-- An object of the call's own, replaced whole. -/
theorem Hd.putObj {W w : World} {Rs : List Res} {k : Nat} {o : Obj} (o' : Obj) (h : Hd W w (Blk k o :: Rs)) : Hd W (w.putObj k o') (Blk k o' :: Rs) := by
  have hb := h.blk
  obtain ⟨f, hR, hf, hlt, hshut⟩ := h.open
  have hRf : f = fun i => if i = k then some o else none := hR
  subst hRf
  have hk := (Array.getElem?_eq_some_iff.1 hb).1
  refine hshut _ _ (fun i => if i = k then some o' else none) rfl (fun i o2 hi => ?_) (fun i hi => ?_) rfl rfl rfl (by simp) (fun i hi hi2 => ?_)
  · dsimp only at hi
    split at hi
    · rename_i e; subst e
      simp only [Option.some.injEq] at hi
      subst hi
      exact World.putObj_heap_same hk
    · cases hi
  · split at hi
    · rename_i e; subst e; exact .inl (by simp)
    · exact absurd rfl hi
  · have : i ≠ k := fun e => by subst e; simp at hi2
    exact World.putObj_heap_other this

/-- The record of a range over a function. -/
def LoopR (fn : FuncId) (tmps : Array Value) (ps : Array Tmp) (assign body : Code) (D : Nat) (st : LoopState) : Loop :=
  { state := st, pending := none, fn, tmps, params := ps, assign, body, defers := D }

section
variable {W w : World} {Xs : List Res} {b : Nat} {L : List T} {m : Int}

set_option maxRecDepth 100000 in
set_option maxHeartbeats 1000000 in
theorem to_loop {mm : Nat} {g : Operand} {ps : Array Tmp} {assign body : Code} {Q : Exit → Act → World → Prop} {a : Act} (hps : ps.size = 2) (k e x : Int) (N : Nat) (hN : N ≤ 4) (hx : x - e = N) (cb sb xb eb kb lb : Nat) (v0 : Value) (Ax : Int → Nat → Act → Prop)
    (hg : a.eval g = .func (.func 54) #[] #[.pointer (some ⟨cb, 0, none⟩), .pointer (some ⟨sb, 0, none⟩), .pointer (some ⟨xb, 0, none⟩), .pointer (some ⟨eb, 0, none⟩)])
    (h : Hd W w (Sto b L m :: Blk eb (.cells #[.int .i64 0] 34 (0, 0)) :: Blk cb (.cells #[.int .i64 k, .int .i64 e] 32 (0, 0)) :: Blk sb (.cells #[.pointer (some ⟨b, 0, none⟩)] 25 (0, 0)) :: Blk xb (.cells #[.int .i64 x] 3 (0, 0)) :: RowR 3 1 v0 0 (nums .i64 []) :: Blk kb (.cells #[v0] 33 (0, 0)) :: Blk lb (.cells #[.int .i64 k, .int .i64 e] 32 (0, 0)) :: Xs))
    (hass : ∀ (mm l : Nat) (x dk de : Int) (w1 : World) (Ys : List Res), Hd W w1 Ys → assign.wpIn (Fence.wide.inRound l) mm Try.prog (Exit.then (fun a1 w2 => ∃ c, Ax x c a1 ∧ Hd W w2 (Blk c (.cells #[.int .i64 dk, .int .i64 de] 32 (0, 0)) :: Ys)) (fun _ _ _ => False))
      { tmps := (ps.zip #[.int .i64 x, .agg #[.int .i64 dk, .int .i64 de]]).foldl (fun t (p, v) => t.setIfInBounds p v) a.tmps, defers := [] } w1)
    (hbody : ∀ (mm l c : Nat) (a1 : Act) (x dk de : Int) (pre : List Int) (v : Value) (lk le : Int) (w1 : World) (Ys : List Res), Ax x c a1 → pre.length < 4 → Hd W w1 (Blk c (.cells #[.int .i64 dk, .int .i64 de] 32 (0, 0)) :: RowR 3 1 v pre.length (nums .i64 pre) :: Blk kb (.cells #[v] 33 (0, 0)) :: Blk lb (.cells #[.int .i64 lk, .int .i64 le] 32 (0, 0)) :: Ys) →
      body.wpIn (Fence.wide.inRound l) mm Try.prog (fun e' _ w2 => e' = .normal ∧ ∃ v', Hd W w2 (RowR 3 1 v' (pre ++ [x]).length (nums .i64 (pre ++ [x])) :: Blk kb (.cells #[v'] 33 (0, 0)) :: Blk lb (.cells #[.int .i64 dk, .int .i64 de] 32 (0, 0)) :: Ys)) a1 w1)
    (hafter : ∀ (D : Nat) (pre : List Int) (lk le : Int) (v : Value) (w2 : World), ((steps15 m N L k e).2.2.1 = 0 → pre = (steps15 m N L k e).1 ∧ (lk, le) = (steps15 m N L k e).2.1) →
      Hd W w2 (Sto b (steps15 m N L k e).2.2.2 m :: Blk eb (.cells #[.int .i64 (steps15 m N L k e).2.2.1] 34 (0, 0)) :: Blk cb (.cells #[.int .i64 k, .int .i64 e] 32 (0, 0)) :: Blk sb (.cells #[.pointer (some ⟨b, 0, none⟩)] 25 (0, 0)) :: Blk xb (.cells #[.int .i64 x] 3 (0, 0)) :: RowR 3 1 v pre.length (nums .i64 pre) :: Blk kb (.cells #[v] 33 (0, 0)) :: Blk lb (.cells #[.int .i64 lk, .int .i64 le] 32 (0, 0)) :: Blk D (.deferred (some [])) :: Xs) →
      Q .normal { a with defers := { target := .collected D, args := #[] } :: a.defers } w2) :
    (Code.rangeFunc g ps assign body).wpIn Fence.wide mm Try.prog Q a w := by
  have cf : ∀ args w, (callFunc 54 args).run Try.prog w = .ok (.enter 54 args) w := fun args w => by kernel_rfl
  refine wpIn_rangeFunc ?_
  intro fn hfn
  obtain ⟨W1, hW1⟩ : ∃ W1, (w.alloc (.deferred (some []))).alloc (.loop (LoopR fn a.tmps ps assign body w.heap.size .ready)) = W1 := ⟨_, rfl⟩
  have H1 := (h.boxk (o := .deferred (some [])) w.heap.size rfl).boxk (o := .loop (LoopR fn a.tmps ps assign body w.heap.size .ready)) (w.heap.size + 1) (by simp)
  rw [hW1] at H1
  refine ⟨w.heap.size + 1, [{ target := .collected w.heap.size, args := #[] }], W1, { target := .fn (.func 54) #[.pointer (some ⟨cb, 0, none⟩), .pointer (some ⟨sb, 0, none⟩), .pointer (some ⟨xb, 0, none⟩), .pointer (some ⟨eb, 0, none⟩)], args := #[.func (.yield (w.heap.size + 1)) #[] #[]] }, W1, 54,
    #[.func (.yield (w.heap.size + 1)) #[] #[], .pointer (some ⟨cb, 0, none⟩), .pointer (some ⟨sb, 0, none⟩), .pointer (some ⟨xb, 0, none⟩), .pointer (some ⟨eb, 0, none⟩)], W1, ?_, ?_, fun _ _ => trivial, ?_, fun h => (by cases h), ?_⟩
  · rw [← hW1]; exact run_enterLoop_outer _ _ _ _ _
  · simp only [resolve, hg]
    simp [go_sem]
  · simp [invoke, go_sem, cf]
  · have H2 := Hd.perm (swap_mid (A := [_, _]) (B := [_, _, _, _, _, _, _, _])) H1
    refine (all_in (mm - 1) (w.heap.size + 1) k e x N hN hx cb sb xb eb (fun pre lk le Js => ∃ v, Js = [RowR 3 1 v pre.length (nums .i64 pre), Blk kb (.cells #[v] 33 (0, 0)), Blk lb (.cells #[.int .i64 lk, .int .i64 le] 32 (0, 0)), Blk (w.heap.size + 1) (.loop (LoopR fn a.tmps ps assign body w.heap.size .ready))]) ?_ _ ⟨v0, rfl⟩ H2).mono ?_
    · intro m2 pre lk le x dk de Js w1 Xs1 hlen hJ hH
      obtain ⟨v, rfl⟩ := hJ
      have hl := hH.nthk 3 rfl
      have hy := run_yield (P := Try.prog) (args := #[.int .i64 x, .agg #[.int .i64 dk, .int .i64 de]]) hl hps.symm
      refine ⟨fn, _, assign, body, hy, roundIn_of_wpIn trivial (wpIn_mono (hass m2 _ x dk de w1 _ hH) ?_)⟩
      rintro e' a1 w2 hh
      cases e' with
      | normal =>
        obtain ⟨c, hA, hB⟩ := hh
        have hl2 := hB.nthk 4 rfl
        refine ⟨_, run_beginRound hl2 rfl, wpIn_mono (hbody m2 _ c a1 x dk de pre v lk le _ (Blk (w.heap.size + 1) (.loop (LoopR fn a.tmps ps assign body w.heap.size .busy)) :: Xs1) hA hlen ?_) ?_⟩
        · exact Hd.perm (swap_mid (A := [_]) (B := [_, _, _, _])) ((hB.front 4 rfl).putObj _)
        · rintro e3 a3 w3 ⟨rfl, v', hd⟩
          refine ⟨_, _, run_endRound none (hd.nthk 3 rfl), rfl, _, ⟨v', rfl⟩, ?_⟩
          exact Hd.perm (swap_mid (A := [_]) (B := [_, _, _])) ((hd.front 3 rfl).putObj _)
      | _ => exact hh.elim
    · rintro e' w3 ⟨⟨v, rfl⟩, pre, lk, le, Js, hp, ⟨v', rfl⟩, hd⟩
      refine ⟨_, _, run_endLoop (hd.nthk 8 rfl) (by simp [LoopR]), ?_⟩
      exact hafter w.heap.size pre lk le v' _ hp ((hd.front 8 rfl).putObj _).drop
end
end Go.Proofs.Ytpcfmafokkffgaa
