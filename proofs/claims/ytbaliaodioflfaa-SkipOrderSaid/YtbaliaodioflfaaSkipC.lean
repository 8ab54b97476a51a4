/-
  A row of entries of the call's own, and a copy of a cache. For every cache.
-/
import Derived.Test.YtbaliaodioflfaaSkipB
namespace Go.Proofs.Ytbaliaodioflfaa
open Go.RowKit

def ensC (es : List En) : List Value := es.flatMap En.cells
theorem ensC_length (es : List En) : (ensC es).length = es.length * 4 := by
  induction es with
  | nil => rfl
  | cons e es ih => simp only [ensC, List.flatMap_cons, List.length_append, List.length_cons] at *; rw [ih]; simp [En.cells]; omega
theorem ensC_append (es fs : List En) : ensC (es ++ fs) = ensC es ++ ensC fs := List.flatMap_append
theorem ensC_get {es : List En} {i : Nat} {e : En} (h : es[i]? = some e) {j : Nat} {v : Value} (hj : e.cells[j]? = some v) : (ensC es)[i * 4 + j]? = some v := by
  have hlt : j < 4 := by have := (List.getElem?_eq_some_iff.1 hj).1; simpa [En.cells] using this
  have hi := (List.getElem?_eq_some_iff.1 h).1
  have hs : es = es.take i ++ e :: es.drop (i + 1) := by
    rw [← (List.getElem?_eq_some_iff.1 h).2, List.getElem_cons_drop, List.take_append_drop]
  rw [hs, ensC_append, List.getElem?_append_right (by rw [ensC_length, List.length_take]; omega), ensC_length, List.length_take, Nat.min_eq_left (by omega), Nat.add_sub_cancel_left]
  show ((e.cells ++ ensC (es.drop (i + 1)))[j]?) = some v
  rw [List.getElem?_append_left (by simpa [En.cells] using hlt)]
  exact hj
theorem ensC_at : ∀ {es : List En} {j : Nat} {v : Value}, (ensC es)[j]? = some v → ∃ i e r, es[i]? = some e ∧ e.cells[r]? = some v ∧ j = i * 4 + r
  | [], j, v, h => by simp [ensC] at h
  | e :: es, j, v, h => by
    have h' : (e.cells ++ ensC es)[j]? = some v := h
    by_cases hj : j < 4
    · rw [List.getElem?_append_left (by simpa [En.cells] using hj)] at h'
      exact ⟨0, e, j, rfl, h', by omega⟩
    · rw [List.getElem?_append_right (by simp [En.cells]; omega)] at h'
      obtain ⟨i, f, r, h1, h2, h3⟩ := ensC_at h'
      have : e.cells.length = 4 := rfl
      exact ⟨i + 1, f, r, by simpa using h1, h2, by omega⟩
theorem ensC_one {es : List En} : ∀ u ∈ ensC es, u.oneCell' = true := fun u hu => by
  obtain ⟨e, _, he⟩ := List.mem_flatMap.1 hu
  simp only [En.cells, List.mem_cons, List.not_mem_nil, or_false] at he
  rcases he with rfl | rfl | rfl | rfl <;> rfl

theorem info_E : ∃ i, Try.prog.info? 91 = some i ∧ i.zero = some (enV En.zero) ∧ i.size = 4 ∧ i.bytes = 32 := info_parts (by kernel_rfl)

section
variable {W w : World} {Rs : List Res}
theorem Hd.row_newS {E size : Nat} (h : Hd W w Rs) : Hd W (w.alloc (.cells #[] E (0, 0))) (RowR E size (.slice (some ⟨w.heap.size, 0, none⟩) 0 0) 0 [] :: Rs) := by
  refine h.add ((Below.refl _ _).alloc (Nat.le_refl _) _) (fun j => if j = w.heap.size then some (.cells #[] E (0, 0)) else none) ⟨by simp, .inr ⟨w.heap.size, 0, #[], rfl, Nat.le_refl _, Nat.zero_le _, by simp, by simp, rfl⟩⟩ (fun k o hk => ?_) (fun k hk => ?_)
  · dsimp only at hk
    split at hk
    · rename_i e1; subst e1; rw [heap_at rfl]; exact hk
    · cases hk
  · split at hk
    · omega
    · exact absurd rfl hk

theorem Hd.row_nilS {E size : Nat} (h : Hd W w Rs) : Hd W w (RowR E size (.slice none 0 0) 0 [] :: Rs) :=
  h.add (Below.refl _ _) (fun _ => none) ⟨by simp, .inl ⟨rfl, rfl, rfl⟩⟩ (fun k o hk => by cases hk) (fun k hk => absurd rfl hk)

/-- A row of entries is a cache. -/
theorem Hd.row_ca {n : Nat} {v : Value} {es : List En} (hn : n = es.length) (h : Hd W w (RowR 91 4 v n (ensC es) :: Rs)) : CaAt w v es := by
  subst hn
  obtain ⟨hl, ⟨rfl, h0⟩ | ⟨g, cap, cur, rfl, _, hc, h3, h4, h5, h6⟩⟩ := h.owns
  · have : es = [] := List.eq_nil_of_length_eq_zero h0
    subst this
    exact CaAt.nil
  · refine ⟨_, cap, rfl, fun i e hi => ⟨g, 0, rfl, fun j v hj => ?_⟩, fun e => (by cases e)⟩
    rw [cell_of_heap hc, Nat.zero_add, ← Array.getElem?_toList]
    exact get_of_take h6 (ensC_get hi hj)

/-- APPEND SOME ENTRIES that lie somewhere. -/
theorem append_ens {ops : Array Oper} {rest : List Oper} {o : Oper} {a : Act} {Q : Exit → Act → World → Prop} {es fs : List En} {n c g p : Nat} {v : Value}
    (hgd : o.guard = none) (s x : Operand) (ho : o.op = .call { callee := .builtin .append, args := #[s, x], argTypes := #[83, 83] }) (hm : 0 < fs.length) (h : Hd W w (RowR 91 4 v n (ensC es) :: Rs)) (hc : EnAt w (some ⟨g, p, none⟩) fs) (hs : a.eval s = v) (hx : a.eval x = .slice (some ⟨g, p, none⟩) fs.length c) (hn : n + fs.length ≤ 1048580)
    (hK : ∀ g' cap w', Hd W w' (RowR 91 4 (.slice (some ⟨g', 0, none⟩) (n + fs.length) cap) (n + fs.length) (ensC (es ++ fs)) :: Rs) → wpList Try.prog ops Q rest (a.put o.dst (.slice (some ⟨g', 0, none⟩) (n + fs.length) cap)) w') :
    wpList Try.prog ops Q (o :: rest) a w := by
  obtain ⟨i, hi, hz, hsz, hby⟩ := info_E
  refine wpList_append_lies _ hgd s x 83 ho 0 91 i (enV En.zero) 4 32 Try.underlying83 hi hz hsz hby rfl (by decide) v n _ hs h.owns ⟨g, p, none⟩ fs.length c (ensC fs) hx (ensC_length fs) (fun j u hj => ?_) ensC_one hm (by simp only [maxLen]; omega) (by omega) (Nat.zero_le _) _ rfl ?_
  · obtain ⟨i, e, r, h1, h2, rfl⟩ := ensC_at hj
    obtain ⟨g2, p2, ha, hcl⟩ := hc i e h1
    simp only [Option.some.injEq, Addr.mk.injEq, and_true] at ha
    obtain ⟨rfl, rfl⟩ := ha
    rw [show ((⟨g, p, none⟩ : Addr).add (i * 4 + r)) = ⟨g, p + i * 4 + r, none⟩ by simp [Addr.add_lit, Nat.add_assoc]]
    exact hcl r u h2
  · intro g' cap w' ho' hg hgg _
    refine hK g' cap w' ?_
    rw [ensC_append]
    exact h.grown ho' hg hgg
end
end Go.Proofs.Ytbaliaodioflfaa
