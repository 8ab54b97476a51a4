/-
  An append of numbers that lie somewhere, to a row of the call's own. For every row of numbers.
-/
import Derived.Test.YtpcfmafokkffgaaOwn
import Derived.Laws.AppendOwnNone
namespace Go.Proofs.Ytpcfmafokkffgaa
open Go.RowKit

section
variable {W w X w' : World} {E n : Nat} {v : Value} {Rs : List Res}
/-- APPEND SOME NUMBERS that lie somewhere. -/
theorem append_ints {ops : Array Oper} {rest : List Oper} {o : Oper} {a : Act} {Q : Exit → Act → World → Prop} {k : IntKind} {T E bytes c : Nat} {i : TypeInfo} {zs ys : List Int} {g : Nat} (ht : Try.prog.underlying T = some (.slice E)) (hi : Try.prog.info? E = some i) (hz : i.zero = some (.int k 0)) (hsize : i.size = 1) (hby : i.bytes = bytes) (hb8 : bytes ≤ 8)
    (hgd : o.guard = none) (s x : Operand) (ho : o.op = .call { callee := .builtin .append, args := #[s, x], argTypes := #[T, T] }) (hm : 0 < ys.length) (h : Hd W w (RowR E 1 v n (nums k zs) :: Rs)) (hc : ∀ (i : Nat) (z : Int), ys[i]? = some z → w.cell? ⟨g, 0 + i, none⟩ = some (.int k z)) (hs : a.eval s = v) (hx : a.eval x = .slice (some ⟨g, 0, none⟩) ys.length c) (hn : n + ys.length ≤ 1048580)
    (hK : ∀ g' cap w', Hd W w' (RowR E 1 (.slice (some ⟨g', 0, none⟩) (n + ys.length) cap) (n + ys.length) (nums k (zs ++ ys)) :: Rs) → wpList Try.prog ops Q rest (a.put o.dst (.slice (some ⟨g', 0, none⟩) (n + ys.length) cap)) w') :
    wpList Try.prog ops Q (o :: rest) a w := by
  refine wpList_append_lies _ hgd s x T ho 0 E i (.int k 0) 1 bytes ht hi hz hsize hby rfl (by decide) v n _ hs h.owns ⟨g, 0, none⟩ ys.length c (nums k ys) hx (by simp [nums]) (fun j u hj => ?_) (by intro u hu; simp only [nums, List.mem_map] at hu; obtain ⟨z, _, rfl⟩ := hu; rfl) hm (by simp only [maxLen]; omega) ?_ (Nat.zero_le _) _ rfl ?_
  · simp only [nums, List.getElem?_map, Option.map_eq_some_iff] at hj
    obtain ⟨z, hz1, rfl⟩ := hj
    have := hc j z hz1
    rw [Nat.zero_add] at this
    rw [show ((⟨g, 0, none⟩ : Addr).add j) = ⟨g, j, none⟩ by simp [Addr.add_lit]]
    exact this
  · have : (n + ys.length) * bytes ≤ (n + ys.length) * 8 := Nat.mul_le_mul_left _ hb8
    omega
  · intro g' cap w' ho' hg hgg _
    refine hK g' cap w' ?_
    have := h.grown ho' hg hgg
    rw [show nums k (zs ++ ys) = nums k zs ++ nums k ys by simp [nums]]
    exact this
end

/-- APPEND NOTHING. -/
theorem append_zero {w : World} {ops : Array Oper} {rest : List Oper} {o : Oper} {a : Act} {Q : Exit → Act → World → Prop} {T E c g cap n : Nat} {i : TypeInfo} {ad : Option Addr} (ht : Try.prog.underlying T = some (.slice E)) (hi : Try.prog.info? E = some i) (hgd : o.guard = none) (s x : Operand)
    (ho : o.op = .call { callee := .builtin .append, args := #[s, x], argTypes := #[T, T] }) (hs : a.eval s = .slice (some ⟨g, 0, none⟩) n cap) (hnc : n ≤ cap) (hx : a.eval x = .slice ad 0 c)
    (hK : wpList Try.prog ops Q rest (a.put o.dst (.slice (some ⟨g, 0, none⟩) n cap)) w) : wpList Try.prog ops Q (o :: rest) a w := by
  refine wpList_plain hgd fun K hK2 => ?_
  have hrun : (Builtin.append_ #[T, T] o.type #[.slice (some ⟨g, 0, none⟩) n cap, .slice ad 0 c]).run Try.prog w = .ok (.slice (some ⟨g, 0, none⟩) n cap) w := by
    cases ad with
    | none => simp [Builtin.append_, run_underlying ht, sizeOf, typeInfo, hi, Builtin.lenOf, Builtin.firstCells, hnc, storeCells]
    | some a => simp [Builtin.append_, run_underlying ht, sizeOf, typeInfo, hi, Builtin.lenOf, Builtin.firstCells, hnc, storeCells, loadCells, go_sem]
  unfold Oper.wp
  simp [execOp, ho, resolve, invoke, builtin, hs, hx, hrun, Result.andThen]
  exact hK2 _ _ hK

theorem two_cells {E : TypeId} (w : World) (p q : Int) : ∀ (i : Nat) (z : Int), [p, q][i]? = some z → (w.alloc (.cells #[.int .i64 p, .int .i64 q] E (0, 0))).cell? ⟨w.heap.size, 0 + i, none⟩ = some (.int .i64 z) := fun i z hi => by
  rw [Nat.zero_add, cell_of_heap (heap_at rfl)]
  match i, hi with
  | 0, hi => simp at hi; subst hi; rfl
  | 1, hi => simp at hi; subst hi; rfl
end Go.Proofs.Ytpcfmafokkffgaa
