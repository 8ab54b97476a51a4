/-
  Contracts of layer 2 in one form: what the call holds before and after. For every store.
-/
import Derived.Test.YtpcfmafokkffgaaRoom
import Derived.Laws.Rows
namespace Go.Proofs.Ytpcfmafokkffgaa
open Go.RowKit

theorem Hd.al {W w : World} {Rs : List Res} {o : Obj} (h : Hd W w Rs) : Hd W (w.alloc o) Rs := h.still ((Below.refl _ _).alloc (Nat.le_refl _) _)
theorem Hd.dr {W w : World} {Rs : List Res} (h : Hd W w Rs) : Hd W w.drew Rs := h.still (Below.refl _ _).drew

/-- A variable of the call's own is kept behind the first thing. -/
theorem Hd.bx {W w : World} {A : Res} {Rs : List Res} {o : Obj} (h : Hd W w (A :: Rs)) : Hd W (w.alloc o) (A :: Blk w.heap.size o :: Rs) := (h.box o).swap
theorem Hd.bxk {W w : World} {A : Res} {Rs : List Res} {o : Obj} (k : Nat) (hk : w.heap.size = k) (h : Hd W w (A :: Rs)) : Hd W (w.alloc o) (A :: Blk k o :: Rs) := by subst hk; exact h.bx
theorem Hd.un2 {W w : World} {A B : Res} {Rs : List Res} (h : Hd W w (A :: B :: Rs)) : Hd W w (A :: Rs) := h.swap.drop

/-- A store into a block of the call's own. -/
theorem Hd.set {W w : World} {Rs : List Res} {k : Nat} {cs : Array Value} {T : TypeId} (j : Nat) (v : Value) (h : Hd W w (Blk k (.cells cs T (0, 0)) :: Rs)) : Hd W (w.setCell ⟨k, j, none⟩ v) (Blk k (.cells (cs.setIfInBounds j v) T (0, 0)) :: Rs) := by
  have hb := h.blk
  obtain ⟨f, hR, hf, hlt, hshut⟩ := h.open
  have hRf : f = fun i => if i = k then some (Obj.cells cs T (0, 0)) else none := hR
  subst hRf
  refine hshut _ _ (fun i => if i = k then some (.cells (cs.setIfInBounds j v) T (0, 0)) else none) rfl (fun i o hi => ?_) (fun i hi => ?_) rfl rfl rfl (by simp) (fun i hi hi2 => ?_)
  · dsimp only at hi
    split at hi
    · rename_i e; subst e
      rw [heap_setCell_same _ _ _ _ _ _ hb]; exact hi
    · cases hi
  · split at hi
    · rename_i e; subst e; exact .inl (by simp)
    · exact absurd rfl hi
  · refine heap_setCell_other _ _ _ _ fun e => ?_
    have : i = k := e
    subst this
    simp at hi2

section
variable {W w : World} {Rs : List Res} {b : Nat} {L : List T} {m : Int}

theorem get_c (x : Int) (h : Hd W w (Sto b L m :: Rs)) :
    Calls Try.prog 49 #[.pointer (some ⟨b, 0, none⟩), .int .i64 x] w fun e w' => e = .returned (.tuple #[T.val (getT L x), .bool (getB L x)]) ∧ Hd W w' (Sto b L m :: Rs) := by
  obtain ⟨lb, db, mb, lc, dc, hs⟩ := h.sto
  exact (get_calls x hs).mono fun e w' ⟨h1, h2⟩ => ⟨h1, h.still h2⟩


/-- A put whose answer has names. -/
theorem put_c (k : Int) (s : ByteArray) (n a b' c : Int) {r1 r2 : Int} {L2 : List T} (hq : Hid (put m L ⟨k, s, n, a, b', c⟩ = (r1, r2, L2))) (h : Hd W w (Sto b L m :: Rs)) :
    Calls Try.prog 24 #[.pointer (some ⟨b, 0, none⟩), .agg #[.int .i64 k, .string s, .int .u64 n, .int .i64 a, .int .i64 b', .int .i64 c]] w fun e w' => e = .returned (.tuple #[.int .i64 r1, .int .i64 r2]) ∧ Hd W w' (Sto b L2 m :: Rs) := by
  have := put_calls k s n a b' c h
  rw [hq.out] at this
  exact this

theorem rput_c (k : Int) (s : ByteArray) (n a b' c : Int) {r1 r2 : Int} {L2 : List T} (hq : Hid (put m L ⟨k, s, n, a, b', c⟩ = (r1, r2, L2))) (h : Hd W w (RSto b L m :: Rs)) :
    Calls Try.prog 52 #[.pointer (some ⟨b, 0, none⟩), .agg #[.int .i64 k, .string s, .int .u64 n, .int .i64 a, .int .i64 b', .int .i64 c]] w fun e w' => e = .returned (.tuple #[.int .i64 r1, .int .i64 r2]) ∧ Hd W w' (RSto b L2 m :: Rs) := by
  have := rput_calls k s n a b' c h
  rw [hq.out] at this
  exact this
end
end Go.Proofs.Ytpcfmafokkffgaa
