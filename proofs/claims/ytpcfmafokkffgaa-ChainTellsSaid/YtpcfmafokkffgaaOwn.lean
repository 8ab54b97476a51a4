/-
  A slice of the call's own that grows: a thing in memory, and what an append does to it. For every slice of numbers.
-/
import Derived.Test.YtpcfmafokkffgaaHd2
import Derived.Deep.AppendLies
namespace Go.Proofs.Ytpcfmafokkffgaa
open Go.RowKit

/-- A slice value that owns its row: n elements of the type e, of so many cells each. -/
def RowR (e : TypeId) (size : Nat) (v : Value) (n : Nat) (xs : List Value) : Res := fun f => xs.length = n * size ∧
  ((v = .slice none 0 0 ∧ n = 0 ∧ f = fun _ => none) ∨
   ∃ g cap cur, v = .slice (some ⟨g, 0, none⟩) n cap ∧ n ≤ cap ∧ cap ≤ maxLen ∧ cur.size = cap * size ∧ cur.toList.take (n * size) = xs ∧ f = fun j => if j = g then some (.cells cur e (0, 0)) else none)

def nums (k : IntKind) (xs : List Int) : List Value := xs.map (.int k)

section
variable {W w X w' : World} {e : TypeId} {size n n' : Nat} {v : Value} {xs ys : List Value} {Rs : List Res}

theorem rowR_owns {f : Frag} (h : RowR e size v n xs f) (hf : FragIn f w) : w.ownsRow 0 e size v n xs := by
  obtain ⟨hl, ⟨rfl, rfl, rfl⟩ | ⟨g, cap, cur, rfl, h1, h2, h3, h4, rfl⟩⟩ := h
  · exact ⟨hl, .inl ⟨rfl, rfl⟩⟩
  · exact ⟨hl, .inr ⟨g, cap, cur, rfl, Nat.zero_le _, hf g _ (by simp), h1, h2, h3, h4⟩⟩

theorem Hd.owns (h : Hd W w (RowR e size v n xs :: Rs)) : w.ownsRow 0 e size v n xs := by
  obtain ⟨f, hR, hf, _⟩ := h.open
  exact rowR_owns hR hf

/-- After an append. -/
theorem Hd.grown (h : Hd W w (RowR e size v n xs :: Rs)) {g cap : Nat} (ho : w'.ownsRow 0 e size (.slice (some ⟨g, 0, none⟩) n' cap) n' ys) (hg : w.grownBy w' v.ownBlock) (hgg : v.ownBlock = some g ∨ g = w.heap.size) : Hd W w' (RowR e size (.slice (some ⟨g, 0, none⟩) n' cap) n' ys :: Rs) := by
  obtain ⟨f, hR, hf, hlt, hshut⟩ := h.open
  obtain ⟨hl, ⟨h1, _⟩ | ⟨g2, c2, cur, hv, _, hc, h3, h4, h5, h6⟩⟩ := ho
  · cases h1
  simp only [Value.slice.injEq, Option.some.injEq, Addr.mk.injEq, and_true] at hv
  obtain ⟨rfl, _, rfl⟩ := hv
  refine hshut w' _ (fun j => if j = g then some (.cells cur e (0, 0)) else none) ⟨hl, .inr ⟨g, cap, cur, rfl, h3, h4, h5, h6, rfl⟩⟩ (fun k o hk => ?_) (fun k hk => ?_) hg.os hg.tape hg.output hg.size (fun k hk hk2 => ?_)
  · dsimp only at hk
    split at hk
    · rename_i e1; subst e1; rw [hc]; exact hk
    · cases hk
  · split at hk
    · rename_i e1; subst e1
      obtain ⟨_, ⟨rfl, rfl, rfl⟩ | ⟨g3, c3, cur3, rfl, _, _, _, _, rfl⟩⟩ := hR
      · rcases hgg with h | h
        · cases h
        · exact .inr (by omega)
      · rcases hgg with h | h
        · simp only [Value.ownBlock, Option.some.injEq] at h; subst h; exact .inl (by simp)
        · exact .inr (by omega)
    · exact absurd rfl hk
  · refine hg.block k hk fun e1 => ?_
    obtain ⟨_, ⟨rfl, rfl, rfl⟩ | ⟨g3, c3, cur3, rfl, _, _, _, _, rfl⟩⟩ := hR
    · cases e1
    · simp only [Value.ownBlock, Option.some.injEq] at e1; subst e1; simp at hk2

/-- A cell of it. -/
theorem Hd.row_cell (h : Hd W w (RowR e size v n xs :: Rs)) {j : Nat} {u : Value} (hj : xs[j]? = some u) : ∃ g cap, v = .slice (some ⟨g, 0, none⟩) n cap ∧ w.cell? ⟨g, j, none⟩ = some u := by
  obtain ⟨hl, ⟨rfl, rfl⟩ | ⟨g, cap, cur, rfl, _, hc, h3, h4, h5, h6⟩⟩ := h.owns
  · have := (List.getElem?_eq_some_iff.1 hj).1
    omega
  · refine ⟨g, cap, rfl, ?_⟩
    rw [cell_of_heap hc, ← Array.getElem?_toList]
    exact get_of_take h6 hj
theorem Hd.row_form (h : Hd W w (RowR e size v n xs :: Rs)) : ∃ a cap, v = .slice a n cap := by
  obtain ⟨hl, ⟨rfl, rfl⟩ | ⟨g, cap, cur, rfl, _, hc, h3, h4, h5, h6⟩⟩ := h.owns
  · exact ⟨_, _, rfl⟩
  · exact ⟨_, _, rfl⟩

/-- A new empty one. -/
theorem Hd.row_new {E : TypeId} (h : Hd W w Rs) : Hd W (w.alloc (.cells #[] E (0, 0))) (RowR E 1 (.slice (some ⟨w.heap.size, 0, none⟩) 0 0) 0 [] :: Rs) := by
  refine h.add ((Below.refl _ _).alloc (Nat.le_refl _) _) (fun j => if j = w.heap.size then some (.cells #[] E (0, 0)) else none) ⟨rfl, .inr ⟨w.heap.size, 0, #[], rfl, Nat.le_refl _, Nat.zero_le _, rfl, rfl, rfl⟩⟩ (fun k o hk => ?_) (fun k hk => ?_)
  · dsimp only at hk
    split at hk
    · rename_i e1; subst e1; rw [heap_at rfl]; exact hk
    · cases hk
  · split at hk
    · omega
    · exact absurd rfl hk

theorem nums_get {k : IntKind} {zs : List Int} {j : Nat} (hj : j < zs.length) : (nums k zs)[j]? = some (.int k (zs.getD j 0)) := by
  simp [nums, List.getElem?_eq_getElem hj, List.getD]

/-- APPEND ONE NUMBER, at the list of a plain region's operations. -/
theorem append_num {ops : Array Oper} {rest : List Oper} {o : Oper} {a : Act} {Q : Exit → Act → World → Prop} {k : IntKind} {T E bytes : Nat} {i : TypeInfo} {zs : List Int} (ht : Try.prog.underlying T = some (.slice E)) (hi : Try.prog.info? E = some i) (hz : i.zero = some (.int k 0)) (hsize : i.size = 1) (hby : i.bytes = bytes) (hb8 : bytes ≤ 8)
    (hgd : o.guard = none) (s x : Operand) (ho : o.op = .call { callee := .builtin .append, args := #[s, x], argTypes := #[T, T] }) (h : Hd W w (RowR E 1 v n (nums k zs) :: Rs)) (hs : a.eval s = v) (d : Int) (hx : a.eval x = .slice (some ⟨w.heap.size, 0, none⟩) 1 1) (hn : n ≤ 1048577)
    (hK : ∀ g cap w', Hd W w' (RowR E 1 (.slice (some ⟨g, 0, none⟩) (n + 1) cap) (n + 1) (nums k (zs ++ [d])) :: Rs) → wpList Try.prog ops Q rest (a.put o.dst (.slice (some ⟨g, 0, none⟩) (n + 1) cap)) w') :
    wpList Try.prog ops Q (o :: rest) a (w.alloc (.cells #[.int k d] E (0, 0))) := by
  have hd := h.al (o := .cells #[.int k d] E (0, 0))
  refine wpList_append_lies _ hgd s x T ho 0 E i (.int k 0) 1 bytes ht hi hz hsize hby rfl (by decide) v n _ hs hd.owns ⟨w.heap.size, 0, none⟩ 1 1 [.int k d] hx rfl (World.news_of_block (heap_alloc_new _ _)) (by simp [Value.oneCell']) (by decide) (by simp only [maxLen]; omega) ?_ (Nat.zero_le _) _ rfl ?_
  · have : (n + 1) * bytes ≤ (n + 1) * 8 := Nat.mul_le_mul_left _ hb8
    omega
  · intro g cap w' ho' hg hgg _
    refine hK g cap w' ?_
    have := hd.grown ho' hg hgg
    rw [show nums k (zs ++ [d]) = nums k zs ++ [.int k d] by simp [nums]]
    exact this
end

theorem info_u8 : ∃ i, Try.prog.info? 5 = some i ∧ i.zero = some (.int .u8 0) ∧ i.size = 1 ∧ i.bytes = 1 := info_parts (by kernel_rfl)
end Go.Proofs.Ytpcfmafokkffgaa
