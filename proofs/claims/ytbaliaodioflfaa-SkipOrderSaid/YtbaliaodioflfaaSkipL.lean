/-
  Rows of entries of the document's package of layer 16, and the equality of entries. For every row.
-/
import Derived.Test.YtbaliaodioflfaaSkipC
import Derived.Test.YtbaliaodioflfaaKnowN
namespace Go.Proofs.Ytbaliaodioflfaa
open Go.RowKit

theorem info_RE : ∃ i, Try.prog.info? 98 = some i ∧ i.zero = some (enV En.zero) ∧ i.size = 4 ∧ i.bytes = 32 := info_parts (by kernel_rfl)

section
variable {W w : World} {Rs : List Res} {T E : TypeId}
/-- APPEND SOME ENTRIES that lie somewhere. -/
theorem append_ensG {ops : Array Oper} {rest : List Oper} {o : Oper} {a : Act} {Q : Exit → Act → World → Prop} {es fs : List En} {n c g p m : Nat} {v : Value} (hfl : m = fs.length)
    (ht : Try.prog.underlying T = some (.slice E)) (hinf : ∃ i, Try.prog.info? E = some i ∧ i.zero = some (enV En.zero) ∧ i.size = 4 ∧ i.bytes = 32)
    (hgd : o.guard = none) (s x : Operand) (ho : o.op = .call { callee := .builtin .append, args := #[s, x], argTypes := #[T, T] }) (hm : 0 < fs.length) (h : Hd W w (RowR E 4 v n (ensC es) :: Rs)) (hc : EnAt w (some ⟨g, p, none⟩) fs) (hs : a.eval s = v) (hx : a.eval x = .slice (some ⟨g, p, none⟩) m c) (hn : n + m ≤ 1048580)
    (hK : ∀ g' cap w', Hd W w' (RowR E 4 (.slice (some ⟨g', 0, none⟩) (n + m) cap) (n + m) (ensC (es ++ fs)) :: Rs) → wpList Try.prog ops Q rest (a.put o.dst (.slice (some ⟨g', 0, none⟩) (n + m) cap)) w') :
    wpList Try.prog ops Q (o :: rest) a w := by
  subst hfl
  obtain ⟨i, hi, hz, hsz, hby⟩ := hinf
  refine wpList_append_lies _ hgd s x T ho 0 E i (enV En.zero) 4 32 ht hi hz hsz hby rfl (by decide) v n _ hs h.owns ⟨g, p, none⟩ fs.length c (ensC fs) hx (ensC_length fs) (fun j u hj => ?_) ensC_one hm (by simp only [maxLen]; omega) (by omega) (Nat.zero_le _) _ rfl ?_
  · obtain ⟨i, e, r, h1, h2, rfl⟩ := ensC_at hj
    obtain ⟨g2, p2, ha, hcl⟩ := hc i e h1
    simp only [Option.some.injEq, Addr.mk.injEq, and_true] at ha
    obtain ⟨rfl, rfl⟩ := ha
    rw [show ((⟨g, p, none⟩ : Addr).add (i * 4 + r)) = ⟨g, p + i * 4 + r, none⟩ by simp [Addr.add_lit, Nat.add_assoc]]
    exact hcl r u h2
  · intro g' cap w' ho' hg hgg _
    refine hK g' cap w' ?_
    rw [ensC_append]
    exact h.grown ho' hg hgg
theorem en_lit {w : World} {x : Nat} {cs : Array Value} {e : En} (hcs : cs = e.cells.toArray) (h : w.heap[x]? = some (.cells cs E (0, 0))) : EnAt w (some ⟨x, 0, none⟩) [e] := fun i f hi => by
  match i, hi with
  | 0, hi =>
    simp only [List.getElem?_cons_zero, Option.some.injEq] at hi
    subst hi
    refine ⟨x, 0, rfl, fun j v hj => ?_⟩
    rw [cell_of_heap h, hcs, List.getElem?_toArray]
    simpa using hj
/-- APPEND ONE ENTRY. -/
theorem append_en {ops : Array Oper} {rest : List Oper} {o : Oper} {a : Act} {Q : Exit → Act → World → Prop} {es : List En} {n : Nat} {v : Value} (e : En) {cs : Array Value}
    (ht : Try.prog.underlying T = some (.slice E)) (hinf : ∃ i, Try.prog.info? E = some i ∧ i.zero = some (enV En.zero) ∧ i.size = 4 ∧ i.bytes = 32)
    (hgd : o.guard = none) (s x : Operand) (ho : o.op = .call { callee := .builtin .append, args := #[s, x], argTypes := #[T, T] }) (hcs : cs = e.cells.toArray) (h : Hd W w (RowR E 4 v n (ensC es) :: Rs)) (hs : a.eval s = v) (hx : a.eval x = .slice (some ⟨w.heap.size, 0, none⟩) 1 1) (hn : n ≤ 1000)
    (hK : ∀ g' cap w', Hd W w' (RowR E 4 (.slice (some ⟨g', 0, none⟩) (n + 1) cap) (n + 1) (ensC (es ++ [e])) :: Rs) → wpList Try.prog ops Q rest (a.put o.dst (.slice (some ⟨g', 0, none⟩) (n + 1) cap)) w') :
    wpList Try.prog ops Q (o :: rest) a (w.alloc (.cells cs E (0, 0))) :=
  append_ensG (fs := [e]) rfl ht hinf hgd s x ho (by simp) h.al (en_lit hcs (heap_at rfl)) hs hx (by simp; omega) hK

/-- A row of entries lies there. -/
theorem Hd.row_en {n cap g : Nat} {es : List En} (hn : n = es.length) (h : Hd W w (RowR E 4 (.slice (some ⟨g, 0, none⟩) n cap) n (ensC es) :: Rs)) : EnAt w (some ⟨g, 0, none⟩) es := by
  subst hn
  obtain ⟨hl, ⟨h1, _⟩ | ⟨g2, cap2, cur, hv, _, hc, h3, h4, h5, h6⟩⟩ := h.owns
  · cases h1
  · cases hv
    refine fun i e hi => ⟨g, 0, rfl, fun j v hj => ?_⟩
    rw [cell_of_heap hc, Nat.zero_add, ← Array.getElem?_toList]
    exact get_of_take h6 (ensC_get hi hj)
end

theorem neq_RE (x y : En) (w : World) : (binOp .neq 98 (.agg #[.int .i64 x.ep, .int .i64 x.key, .int .u64 x.nx, .int .u64 x.bt]) (.agg #[.int .i64 y.ep, .int .i64 y.key, .int .u64 y.nx, .int .u64 y.bt])).run Try.prog w = .ok (.bool (!decide (x = y))) w := by
  obtain ⟨a, b, c, d⟩ := x
  obtain ⟨a', b', c', d'⟩ := y
  have e : (Op.equalIn 10000 98 (.agg #[.int .i64 a, .int .i64 b, .int .u64 c, .int .u64 d]) (.agg #[.int .i64 a', .int .i64 b', .int .u64 c', .int .u64 d'])).run Try.prog w = .ok (decide ((⟨a, b, c, d⟩ : En) = ⟨a', b', c', d'⟩)) w := by
    go_simp
    by_cases h1 : a = a' <;> by_cases h2 : b = b' <;> by_cases h3 : c = c' <;> by_cases h4 : d = d' <;> simp [h1, h2, h3, h4]
  rw [run_neq_struct, e]
  rfl
theorem neq_E (x y : En) (w : World) : (binOp .neq 91 (.agg #[.int .i64 x.ep, .int .i64 x.key, .int .u64 x.nx, .int .u64 x.bt]) (.agg #[.int .i64 y.ep, .int .i64 y.key, .int .u64 y.nx, .int .u64 y.bt])).run Try.prog w = .ok (.bool (!decide (x = y))) w := by
  obtain ⟨a, b, c, d⟩ := x
  obtain ⟨a', b', c', d'⟩ := y
  have e : (Op.equalIn 10000 91 (.agg #[.int .i64 a, .int .i64 b, .int .u64 c, .int .u64 d]) (.agg #[.int .i64 a', .int .i64 b', .int .u64 c', .int .u64 d'])).run Try.prog w = .ok (decide ((⟨a, b, c, d⟩ : En) = ⟨a', b', c', d'⟩)) w := by
    go_simp
    by_cases h1 : a = a' <;> by_cases h2 : b = b' <;> by_cases h3 : c = c' <;> by_cases h4 : d = d' <;> simp [h1, h2, h3, h4]
  rw [run_neq_struct, e]
  rfl
theorem eq_E (x y : En) (w : World) : (binOp .eql 91 (.agg #[.int .i64 x.ep, .int .i64 x.key, .int .u64 x.nx, .int .u64 x.bt]) (.agg #[.int .i64 y.ep, .int .i64 y.key, .int .u64 y.nx, .int .u64 y.bt])).run Try.prog w = .ok (.bool (decide (x = y))) w := by
  obtain ⟨a, b, c, d⟩ := x
  obtain ⟨a', b', c', d'⟩ := y
  have e : (Op.equalIn 10000 91 (.agg #[.int .i64 a, .int .i64 b, .int .u64 c, .int .u64 d]) (.agg #[.int .i64 a', .int .i64 b', .int .u64 c', .int .u64 d'])).run Try.prog w = .ok (decide ((⟨a, b, c, d⟩ : En) = ⟨a', b', c', d'⟩)) w := by
    go_simp
    by_cases h1 : a = a' <;> by_cases h2 : b = b' <;> by_cases h3 : c = c' <;> by_cases h4 : d = d' <;> simp [h1, h2, h3, h4]
  rw [run_eql_struct, e]
  rfl
end Go.Proofs.Ytbaliaodioflfaa
