/-
  Walks and laws that the proof stands on, one behind another: ChainQ FixCh KnowN ChainR ChainU. For every input.
-/
import Derived.Test.YtpcfmafokkffgaaZ4
import Derived.Test.YtpcfmafokkffgaaZ2
import Derived.Test.YtpcfmafokkffgaaZ3
import Derived.Laws.AppendOwnNone
namespace Go.Proofs.Ytpcfmafokkffgaa
open Go.RowKit

theorem put_at {m i : Int} {L : List T} {t : T} (g : Good L) (hr : (L.length : Int) < m) (h : put m L t = (i, 0, L)) : At L i t := by
  by_cases hm : t.may L.length
  · obtain ⟨j, L', e, ha, _⟩ := put_ok g hm hr
    rw [h] at e
    simp only [Prod.mk.injEq, true_and] at e
    obtain ⟨rfl, rfl⟩ := e
    exact ha
  · unfold put at h
    rw [if_neg hm] at h
    simp at h
theorem steps15_step {m : Int} {n : Nat} {L : List T} {k e : Int} {ks : List Int} {ke : Int × Int} (h : steps15 m (n + 1) L k e = (ks, ke, 0, L)) :
    ∃ z zs d, ks = z :: zs ∧ put m L (keyT k 1) = (z, 0, L) ∧ next15 m L k e = ((d, e + 1), 0, L) ∧ put m L (keyT k 2) = (d, 0, L) ∧ steps15 m n L d (e + 1) = (zs, ke, 0, L) := by
  rw [steps15_succ] at h
  split at h
  · rename_i h0
    split at h
    · rename_i h1
      have hpre := steps15_pre m n (next15 m (put m L (keyT k 1)).2.2 k e).2.2 (next15 m (put m L (keyT k 1)).2.2 k e).1.1 (next15 m (put m L (keyT k 1)).2.2 k e).1.2
      obtain ⟨r, hr⟩ : ∃ r, steps15 m n (next15 m (put m L (keyT k 1)).2.2 k e).2.2 (next15 m (put m L (keyT k 1)).2.2 k e).1.1 (next15 m (put m L (keyT k 1)).2.2 k e).1.2 = r := ⟨_, rfl⟩
      rw [hr] at h hpre
      obtain ⟨rk, rl, re, rL⟩ := r
      simp only [Prod.mk.injEq] at h
      obtain ⟨rfl, rfl, rfl, rfl⟩ := h
      dsimp only at hpre
      have p1 := put_pre m rL (keyT k 1)
      have p2 := next15_pre m (put m rL (keyT k 1)).2.2 k e
      have e1 : rL = (put m rL (keyT k 1)).2.2 := p1.eq_of_length_le (p2.trans hpre).length_le
      have e2 : (put m rL (keyT k 1)).2.2 = (next15 m (put m rL (keyT k 1)).2.2 k e).2.2 := p2.eq_of_length_le (by have := hpre.length_le; have := p1.length_le; omega)
      rw [← e1] at e2 h1 hr
      rw [← e2] at hr
      have hq : put m rL (keyT k 1) = ((put m rL (keyT k 1)).1, 0, rL) := by
        rw [← h0]
        conv => lhs; rw [show put m rL (keyT k 1) = ((put m rL (keyT k 1)).1, (put m rL (keyT k 1)).2.1, (put m rL (keyT k 1)).2.2) from rfl, ← e1]
      have hn : next15 m rL k e = ((next15 m rL k e).1, 0, rL) := by
        rw [← h1]
        conv => lhs; rw [show next15 m rL k e = ((next15 m rL k e).1, (next15 m rL k e).2.1, (next15 m rL k e).2.2) from rfl, ← e2]
      obtain ⟨d, hd, hp⟩ : ∃ d, next15 m rL k e = ((d, e + 1), 0, rL) ∧ put m rL (keyT k 2) = (d, 0, rL) := by
        have hn2 := hn
        unfold next15 at hn2
        split at hn2
        · simp at hn2
        · rename_i he
          split at hn2
          · rename_i h2
            simp only [Prod.mk.injEq, true_and] at hn2
            refine ⟨(put m rL (keyT k 2)).1, ?_, ?_⟩
            · unfold next15
              rw [if_neg he, if_pos h2, hn2]
            · conv => lhs; rw [show put m rL (keyT k 2) = ((put m rL (keyT k 2)).1, (put m rL (keyT k 2)).2.1, (put m rL (keyT k 2)).2.2) from rfl, h2, hn2]
          · rename_i h2
            simp only [Prod.mk.injEq] at hn2
            exact absurd hn2.2.1 h2
      rw [hd] at hr
      exact ⟨_, _, d, rfl, hq, hd, hp, hr⟩
    · rename_i h1
      simp only [Prod.mk.injEq] at h
      exact absurd h.2.2.1 h1
  · rename_i h0
    simp only [Prod.mk.injEq] at h
    exact absurd h.2.2.1 h0
/-- A step's names are new. -/
theorem step_new {m k z d : Int} {L : List T} {prev : List Int} (g : Good L) (hr : (L.length : Int) < m) (hz : put m L (keyT k 1) = (z, 0, L)) (hd : put m L (keyT k 2) = (d, 0, L)) (hp : ∀ y ∈ prev, ∃ k', k' < k ∧ At L y (keyT k' 1)) :
    d ≠ z ∧ k < d ∧ (∀ y ∈ prev, y ≠ z) ∧ ∀ y ∈ prev ++ [z], ∃ k', k' < d ∧ At L y (keyT k' 1) := by
  have az := put_at g hr hz
  have aD := put_at g hr hd
  have hkd : k < d := (aD.part g (p := k) (by simp [keyT, T.parts, many])).2
  refine ⟨fun e => ?_, hkd, fun y hy e => ?_, fun y hy => ?_⟩
  · subst e
    have := aD.same az
    simp [keyT] at this
  · subst e
    obtain ⟨k', hk, ha⟩ := hp y hy
    have := ha.same az
    simp only [keyT, T.mk.injEq] at this
    omega
  · rcases List.mem_append.1 hy with h | h
    · obtain ⟨k', hk, ha⟩ := hp y h
      exact ⟨k', by omega, ha⟩
    · simp only [List.mem_singleton] at h
      subst h
      exact ⟨k, hkd, az⟩
end Go.Proofs.Ytpcfmafokkffgaa
namespace Go.Proofs.Ytpcfmafokkffgaa
open Go.RowKit

theorem row_ints {W w : World} {v : Value} {ks : List Int} {Rs : List Res} (h : Hd W w (RowR 3 1 v ks.length (nums .i64 ks) :: Rs)) : ∃ ad cap, v = .slice ad ks.length cap ∧ IntsAt w ad ks := by
  obtain ⟨ad, cap, rfl⟩ := h.row_form
  refine ⟨ad, cap, rfl, ?_⟩
  by_cases h0 : ks = []
  · exact .inl h0
  · have hp : 0 < ks.length := List.length_pos_iff.2 h0
    obtain ⟨g, c, e, _⟩ := h.row_cell (j := 0) (u := .int .i64 (ks.getD 0 0)) (by simp [nums, List.getD, hp])
    simp only [Value.slice.injEq] at e
    refine .inr ⟨g, 0, e.1, fun j hj => ?_⟩
    obtain ⟨g', c', e', hc⟩ := h.row_cell (j := j) (u := .int .i64 (ks.getD j 0)) (by simp [nums, List.getD, hj])
    simp only [Value.slice.injEq] at e'
    have := e.1.symm.trans e'.1
    simp only [Option.some.injEq, Addr.mk.injEq, and_true] at this
    rw [Nat.zero_add, this]
    exact hc

theorem eqt_Ch (k e : Int) (w : World) : (binOp .eql 32 (.agg #[.int .i64 k, .int .i64 e]) (.agg #[.int .i64 k, .int .i64 e])).run Try.prog w = .ok (.bool true) w := by
  have q : (Op.equalIn 10000 32 (.agg #[.int .i64 k, .int .i64 e]) (.agg #[.int .i64 k, .int .i64 e])).run Try.prog w = .ok true w := by
    go_simp
  rw [run_eql_struct, q]
  rfl

def fl1 : List T := (put 20 [] ⟨2, ⟨#[]⟩, 1, 0, 0, 0⟩).2.2
def fl2 : List T := (put 20 fl1 (keyT 1 1)).2.2
def fl3 : List T := (next15 20 fl2 1 0).2.2
def fl4 : List T := (to15 20 fl3 1 0 2).2.2.2

set_option maxRecDepth 100000 in
set_option maxHeartbeats 8000000 in
theorem fixed15_calls {W w : World} {Rs : List Res} (h : Hd W w Rs) :
    Calls Try.prog 19 #[] w fun e w' => e = .returned (.bool true) ∧ Hd W w' Rs := by
  have H := hid h
  clear h
  go_enter Try.func19, Try.ntmps19
  go_wp2_with fail
  refine (new_calls H.out (by decide) (by decide)).mono ?_
  rintro e w1 ⟨b, rfl, h1⟩
  clear H
  have H := hid h1
  clear h1
  go_wp2_with fail
  refine (put_calls _ _ _ _ _ _ H.out).mono ?_
  rintro e w2 ⟨rfl, h1⟩
  clear H
  have H := hid (show Hd W w2 (Sto b fl1 20 :: Rs) from h1)
  clear h1
  generalize (put 20 [] ⟨2, ⟨#[]⟩, 1, 0, 0, 0⟩) = rr
  go_wp2_with fail
  refine (seal15_calls 1 0 (show put 20 fl1 (keyT 1 1) = (2, 0, fl2) from by decide +kernel) H.out.bx).mono ?_
  rintro e w3 ⟨rfl, h1⟩
  clear H
  have H := hid h1
  clear h1
  have hk := Hd.nthk 1 H.out rfl
  have ba0 := (cell_of_heap hk 0).trans (show _ = some (.int .i64 1) from rfl)
  have ba1 := (cell_of_heap hk 1).trans (show _ = some (.int .i64 0) from rfl)
  have bas := (Array.getElem?_eq_some_iff.1 hk).1
  clear hk
  go_wp2_with fail
  refine (next15_calls 1 0 (show next15 20 fl2 1 0 = ((3, 1), 0, fl3) from by decide +kernel) H.out).mono ?_
  rintro e w4 ⟨rfl, h1⟩
  clear ba0 ba1 bas
  clear H
  have H := hid h1
  clear h1
  have hk := Hd.nthk 1 H.out rfl
  have ba0 := (cell_of_heap hk 0).trans (show _ = some (.int .i64 1) from rfl)
  have ba1 := (cell_of_heap hk 1).trans (show _ = some (.int .i64 0) from rfl)
  have bas := (Array.getElem?_eq_some_iff.1 hk).1
  clear hk
  go_wp2_with fail
  refine (to_calls 1 0 2 (by decide) (by decide) (by decide) (by decide) H.out.bx (show to15 20 fl3 1 0 2 = ((5, 2), [2, 4], 0, fl4) from by decide +kernel)).mono ?_
  rintro e w5 ⟨v9, rfl, h1⟩
  clear ba0 ba1 bas
  clear H
  obtain ⟨a9, c9, rfl, _⟩ := row_ints (ks := [2, 4]) h1
  have H := hid h1.swap
  clear h1
  have hk := Hd.nthk 3 H.out rfl
  have ba0 := (cell_of_heap hk 0).trans (show _ = some (.int .i64 1) from rfl)
  have ba1 := (cell_of_heap hk 1).trans (show _ = some (.int .i64 0) from rfl)
  have bas := (Array.getElem?_eq_some_iff.1 hk).1
  clear hk
  have hk := Hd.nthk 2 H.out rfl
  have bb0 := (cell_of_heap hk 0).trans (show _ = some (.int .i64 3) from rfl)
  have bb1 := (cell_of_heap hk 1).trans (show _ = some (.int .i64 1) from rfl)
  have bbs := (Array.getElem?_eq_some_iff.1 hk).1
  clear hk
  go_wp2_with fail
  refine (to_calls 3 1 0 (by decide) (by decide) (by decide) (by decide) H.out.bx (show to15 20 fl4 3 1 0 = ((0, 0), [], 12, fl4) from by decide +kernel)).mono ?_
  rintro e w6 ⟨v12, rfl, h1⟩
  clear ba0 ba1 bas bb0 bb1 bbs
  clear H
  have H := hid h1.drop
  clear h1
  have hk := Hd.nthk 4 H.out rfl
  have ba0 := (cell_of_heap hk 0).trans (show _ = some (.int .i64 1) from rfl)
  have ba1 := (cell_of_heap hk 1).trans (show _ = some (.int .i64 0) from rfl)
  have bas := (Array.getElem?_eq_some_iff.1 hk).1
  clear hk
  have hk := Hd.nthk 3 H.out rfl
  have bb0 := (cell_of_heap hk 0).trans (show _ = some (.int .i64 3) from rfl)
  have bb1 := (cell_of_heap hk 1).trans (show _ = some (.int .i64 1) from rfl)
  have bbs := (Array.getElem?_eq_some_iff.1 hk).1
  clear hk
  go_wp2_with fail
  refine (to_calls 1 0 5 (by decide) (by decide) (by decide) (by decide) H.out.bx (show to15 20 fl4 1 0 5 = ((0, 0), [], 13, fl4) from by decide +kernel)).mono ?_
  rintro e w7 ⟨v15, rfl, h1⟩
  clear ba0 ba1 bas bb0 bb1 bbs
  clear H
  have H := hid h1.drop
  clear h1
  have hk := Hd.nthk 5 H.out rfl
  have ba0 := (cell_of_heap hk 0).trans (show _ = some (.int .i64 1) from rfl)
  have ba1 := (cell_of_heap hk 1).trans (show _ = some (.int .i64 0) from rfl)
  have bas := (Array.getElem?_eq_some_iff.1 hk).1
  clear hk
  go_wp2_with fail
  refine (to_calls 1 0 0 (by decide) (by decide) (by decide) (by decide) H.out.bx (show to15 20 fl4 1 0 0 = ((1, 0), [], 0, fl4) from by decide +kernel)).mono ?_
  rintro e w8 ⟨v18, rfl, h1⟩
  clear ba0 ba1 bas
  clear H
  obtain ⟨a18, c18, rfl, _⟩ := row_ints (ks := []) h1
  have H := hid h1.drop
  clear h1
  have hk := Hd.nthk 6 H.out rfl
  have ba0 := (cell_of_heap hk 0).trans (show _ = some (.int .i64 1) from rfl)
  have ba1 := (cell_of_heap hk 1).trans (show _ = some (.int .i64 0) from rfl)
  have bas := (Array.getElem?_eq_some_iff.1 hk).1
  clear hk
  go_wp2_with fail
  refine (next15_calls 1 1000 (show next15 20 fl4 1 1000 = ((0, 0), 13, fl4) from by decide +kernel) H.out.bx).mono ?_
  rintro e w9 ⟨rfl, h1⟩
  clear ba0 ba1 bas
  clear H
  have H := hid h1
  clear h1
  have hk := Hd.nthk 7 H.out rfl
  have ba0 := (cell_of_heap hk 0).trans (show _ = some (.int .i64 1) from rfl)
  have ba1 := (cell_of_heap hk 1).trans (show _ = some (.int .i64 0) from rfl)
  have bas := (Array.getElem?_eq_some_iff.1 hk).1
  clear hk
  go_wp2_with fail
  refine (seal15_calls 99 0 (show put 20 fl4 (keyT 99 1) = (0, 1, fl4) from by decide +kernel) H.out.bx).mono ?_
  rintro e w10 ⟨rfl, h1⟩
  clear ba0 ba1 bas
  clear H
  have H := hid h1
  clear h1
  have q1 := eqt_Ch 3 1
  have q2 := eqt_Ch 5 2
  have q3 := eqt_Ch 1 0
  have hk := Hd.nthk 8 H.out rfl
  have ba0 := (cell_of_heap hk 0).trans (show _ = some (.int .i64 1) from rfl)
  have ba1 := (cell_of_heap hk 1).trans (show _ = some (.int .i64 0) from rfl)
  have bas := (Array.getElem?_eq_some_iff.1 hk).1
  clear hk
  have hk := Hd.nthk 7 H.out rfl
  have bb0 := (cell_of_heap hk 0).trans (show _ = some (.int .i64 3) from rfl)
  have bb1 := (cell_of_heap hk 1).trans (show _ = some (.int .i64 1) from rfl)
  have bbs := (Array.getElem?_eq_some_iff.1 hk).1
  clear hk
  have hk := Hd.nthk 5 H.out rfl
  have bc0 := (cell_of_heap hk 0).trans (show _ = some (.int .i64 5) from rfl)
  have bc1 := (cell_of_heap hk 1).trans (show _ = some (.int .i64 2) from rfl)
  have bcs := (Array.getElem?_eq_some_iff.1 hk).1
  clear hk
  have hk := Hd.nthk 2 H.out rfl
  have bf0 := (cell_of_heap hk 0).trans (show _ = some (.int .i64 1) from rfl)
  have bf1 := (cell_of_heap hk 1).trans (show _ = some (.int .i64 0) from rfl)
  have bfs := (Array.getElem?_eq_some_iff.1 hk).1
  clear hk
  go_wp2_with fail
  obtain ⟨a9', c9', ea, hi⟩ := row_ints (ks := [2, 4]) (H.out.front 6 rfl)
  simp only [Value.slice.injEq] at ea
  obtain ⟨rfl, _, rfl⟩ := ea
  refine (same_calls (xs := [2, 4]) (ys := [2, 4]) (hi.later ((Below.refl _ _).alloc (Nat.le_refl _) _)) (.inr ⟨w10.heap.size, 0, rfl, fun j hj => ?_⟩) rfl rfl (by decide) (by decide)).mono ?_
  · have hj2 : j = 0 ∨ j = 1 := by simp at hj; omega
    have hk := heap_alloc_new w10 (.cells #[.int .i64 2, .int .i64 4] 3 (0, 0))
    rcases hj2 with rfl | rfl
    · exact cell_of_heap hk 0
    · exact cell_of_heap hk 1
  rintro e w11 ⟨he, hb⟩
  obtain rfl : e = .returned (.bool true) := he
  have H2 := hid (H.out.al.still hb)
  clear ba0 ba1 bas bb0 bb1 bbs bc0 bc1 bcs bf0 bf1 bfs
  clear H hb hi
  have H := H2
  clear H2
  have hk := Hd.nthk 8 H.out rfl
  have ba0 := (cell_of_heap hk 0).trans (show _ = some (.int .i64 1) from rfl)
  have ba1 := (cell_of_heap hk 1).trans (show _ = some (.int .i64 0) from rfl)
  have bas := (Array.getElem?_eq_some_iff.1 hk).1
  clear hk
  have hk := Hd.nthk 2 H.out rfl
  have bf0 := (cell_of_heap hk 0).trans (show _ = some (.int .i64 1) from rfl)
  have bf1 := (cell_of_heap hk 1).trans (show _ = some (.int .i64 0) from rfl)
  have bfs := (Array.getElem?_eq_some_iff.1 hk).1
  clear hk
  go_wp2_with fail
  go_ret
  exact ⟨rfl, (Hd.rear (Ss := [_, _, _, _, _, _, _, _, _]) H.out)⟩
end Go.Proofs.Ytpcfmafokkffgaa
namespace Go.Proofs.Ytpcfmafokkffgaa
open Go.RowKit

section
variable {W w X w' : World} {E n : Nat} {v : Value} {Rs : List Res}
/-- APPEND SOME NUMBERS that lie somewhere. -/
theorem append_ints {ops : Array Oper} {rest : List Oper} {o : Oper} {a : Act} {Q : Exit → Act → World → Prop} {k : IntKind} {T E bytes c : Nat} {i : TypeInfo} {zs ys : List Int} {g : Nat} (ht : Try.prog.underlying T = some (.slice E)) (hi : Try.prog.info? E = some i) (hz : i.zero = some (.int k 0)) (hsize : i.size = 1) (hby : i.bytes = bytes) (hb8 : bytes ≤ 8)
    (hgd : o.guard = none) (s x : Operand) (ho : o.op = .call { callee := .builtin .append, args := #[s, x], argTypes := #[T, T] }) (hm : 0 < ys.length) (h : Hd W w (RowR E 1 v n (nums k zs) :: Rs)) (hc : ∀ (i : Nat) (z : Int), ys[i]? = some z → w.cell? ⟨g, 0 + i, none⟩ = some (.int k z)) (hs : a.eval s = v) (hx : a.eval x = .slice (some ⟨g, 0, none⟩) ys.length c) (hn : n + ys.length ≤ 1048580)
    (hK : ∀ g' cap w', Hd W w' (RowR E 1 (.slice (some ⟨g', 0, none⟩) (n + ys.length) cap) (n + ys.length) (nums k (zs ++ ys)) :: Rs) → wpList Try.prog ops Q rest (a.put o.dst (.slice (some ⟨g', 0, none⟩) (n + ys.length) cap)) w') :
    wpList Try.prog ops Q (o :: rest) a w := by
  refine wpList_append_lies _ hgd s x T ho 0 E i (.int k 0) 1 bytes ht hi hz hsize hby rfl (by decide) v n _ hs h.owns ⟨g, 0, none⟩ ys.length c (nums k ys) hx (by simp [nums]) (fun j u hj => ?_) (by intro u hu; simp only [nums, List.mem_map] at hu; obtain ⟨z, _, rfl⟩ := hu; rfl) hm (by simp only [maxLen]; omega) ?_ (Nat.zero_le _) _ rfl ?_
  · simp only [nums, List.getElem?_map, Option.map_eq_some_iff] at hj
    obtain ⟨z, hz1, rfl⟩ := hj
    have := hc j z hz1
    rw [Nat.zero_add] at this
    rw [show ((⟨g, 0, none⟩ : Addr).add j) = ⟨g, j, none⟩ by simp [Addr.add_lit]]
    exact this
  · have : (n + ys.length) * bytes ≤ (n + ys.length) * 8 := Nat.mul_le_mul_left _ hb8
    omega
  · intro g' cap w' ho' hg hgg _
    refine hK g' cap w' ?_
    have := h.grown ho' hg hgg
    rw [show nums k (zs ++ ys) = nums k zs ++ nums k ys by simp [nums]]
    exact this
end

/-- APPEND NOTHING. -/
theorem append_zero {w : World} {ops : Array Oper} {rest : List Oper} {o : Oper} {a : Act} {Q : Exit → Act → World → Prop} {T E c g cap n : Nat} {i : TypeInfo} {ad : Option Addr} (ht : Try.prog.underlying T = some (.slice E)) (hi : Try.prog.info? E = some i) (hgd : o.guard = none) (s x : Operand)
    (ho : o.op = .call { callee := .builtin .append, args := #[s, x], argTypes := #[T, T] }) (hs : a.eval s = .slice (some ⟨g, 0, none⟩) n cap) (hnc : n ≤ cap) (hx : a.eval x = .slice ad 0 c)
    (hK : wpList Try.prog ops Q rest (a.put o.dst (.slice (some ⟨g, 0, none⟩) n cap)) w) : wpList Try.prog ops Q (o :: rest) a w := by
  refine wpList_plain hgd fun K hK2 => ?_
  have hrun : (Builtin.append_ #[T, T] o.type #[.slice (some ⟨g, 0, none⟩) n cap, .slice ad 0 c]).run Try.prog w = .ok (.slice (some ⟨g, 0, none⟩) n cap) w := by
    cases ad with
    | none => simp [Builtin.append_, run_underlying ht, sizeOf, typeInfo, hi, Builtin.lenOf, Builtin.firstCells, hnc, storeCells]
    | some a => simp [Builtin.append_, run_underlying ht, sizeOf, typeInfo, hi, Builtin.lenOf, Builtin.firstCells, hnc, storeCells, loadCells, go_sem]
  unfold Oper.wp
  simp [execOp, ho, resolve, invoke, builtin, hs, hx, hrun, Result.andThen]
  exact hK2 _ _ hK

theorem two_cells {E : TypeId} (w : World) (p q : Int) : ∀ (i : Nat) (z : Int), [p, q][i]? = some z → (w.alloc (.cells #[.int .i64 p, .int .i64 q] E (0, 0))).cell? ⟨w.heap.size, 0 + i, none⟩ = some (.int .i64 z) := fun i z hi => by
  rw [Nat.zero_add, cell_of_heap (heap_at rfl)]
  match i, hi with
  | 0, hi => simp at hi; subst hi; rfl
  | 1, hi => simp at hi; subst hi; rfl
end Go.Proofs.Ytpcfmafokkffgaa
namespace Go.Proofs.Ytpcfmafokkffgaa
open Go.RowKit

/-- x is a chain's key, so many steps behind a Nonce. -/
def Lv (L : List T) : Nat → Int → Prop
  | 0, x => ∃ n, At L x (nonT n)
  | i + 1, x => ∃ k, Lv L i k ∧ At L x (keyT k 2)

theorem Lv.ext {L L' : List T} (e : Ext L L') : ∀ {i : Nat} {x : Int}, Lv L i x → Lv L' i x
  | 0, _, ⟨n, h⟩ => ⟨n, h.ext e⟩
  | _ + 1, _, ⟨k, h1, h2⟩ => ⟨k, Lv.ext e h1, h2.ext e⟩
theorem Lv.inn {L : List T} : ∀ {i : Nat} {x : Int}, Lv L i x → 1 ≤ x ∧ x ≤ L.length
  | 0, _, ⟨_, h⟩ => ⟨h.lo, h.hi⟩
  | _ + 1, _, ⟨_, _, h⟩ => ⟨h.lo, h.hi⟩
theorem Lv.uniq {L : List T} : ∀ {i j : Nat} {x : Int}, Lv L i x → Lv L j x → i = j
  | 0, 0, _, _, _ => rfl
  | 0, j + 1, _, ⟨n, h⟩, ⟨k, _, h2⟩ => by have := h.same h2; simp [nonT, keyT] at this
  | i + 1, 0, _, ⟨k, _, h2⟩, ⟨n, h⟩ => by have := h.same h2; simp [nonT, keyT] at this
  | i + 1, j + 1, _, ⟨k, h1, h2⟩, ⟨k', h3, h4⟩ => by
    have := h2.same h4
    simp only [keyT, T.mk.injEq, and_true, true_and] at this
    subst this
    rw [Lv.uniq h1 h3]
theorem Lv.notKey {L : List T} {k : Int} : ∀ {i : Nat} {x : Int}, Lv L i x → ¬ At L x (keyT k 1)
  | 0, _, ⟨n, h⟩, h2 => by have := h.same h2; simp [nonT, keyT] at this
  | _ + 1, _, ⟨k', _, h⟩, h2 => by have := h.same h2; simp [keyT] at this

theorem next15_of {m k e u : Int} {L L' : List T} (h0 : 0 ≤ e) (h1 : e < 1000) (h : put m L (keyT k 2) = (u, 0, L')) : next15 m L k e = ((u, e + 1), 0, L') := by
  unfold next15
  rw [if_neg (by omega), h]
  rfl

/-- Two chains, i steps behind their Nonces: the keys and the chains so far. -/
structure ApSt (L : List T) (i : Nat) (P : Prop) (c d : Int) (keys chains : List Int) : Prop where
  good : Good L
  lc : Lv L i c
  ld : Lv L i d
  eq : c = d ↔ P
  keys : ∀ y ∈ keys, ∃ j k, j < i ∧ Lv L j k ∧ At L y (keyT k 1)
  chains : ∀ y ∈ chains, ∃ j, j ≤ i ∧ Lv L j y

theorem keyT_inj {a b n : Int} : keyT a n = keyT b n ↔ a = b := by simp [keyT]

theorem apart_start {m n1 n2 : Int} (hm : 2 ≤ m) : ∃ x y L1 L2, put m [] (nonT n1) = (x, 0, L1) ∧ put m L1 (nonT n2) = (y, 0, L2) ∧ ApSt L2 0 (n1 = n2) x y [] [x, y] ∧ L2.length ≤ 2 := by
  obtain ⟨x, L1, p1, a1, e1, g1, l1⟩ := put_ok (m := m) (L := []) (t := nonT n1) good_nil (may_non _) (by simp; omega)
  obtain ⟨y, L2, p2, a2, e2, g2, l2⟩ := put_ok (m := m) (L := L1) (t := nonT n2) g1 (may_non _) (by simp at l1; omega)
  refine ⟨x, y, L1, L2, p1, p2, ⟨g2, ⟨n1, a1.ext e2⟩, ⟨n2, a2⟩, ?_, by simp, ?_⟩, by simp at l1; omega⟩
  · rw [at_iff g2 (a1.ext e2) a2]; simp [nonT]
  · intro z hz
    simp only [List.mem_cons, List.not_mem_nil, or_false] at hz
    rcases hz with rfl | rfl
    · exact ⟨0, Nat.le_refl _, n1, a1.ext e2⟩
    · exact ⟨0, Nat.le_refl _, n2, a2⟩

theorem apart_step {L : List T} {i : Nat} {P : Prop} {c d m : Int} {keys chains : List Int} (h : ApSt L i P c d keys chains) (hr : (L.length : Int) + 4 ≤ m) :
    ∃ a b u v L1 L2 L3 L4, put m L (keyT c 1) = (a, 0, L1) ∧ put m L1 (keyT d 1) = (b, 0, L2) ∧ put m L2 (keyT c 2) = (u, 0, L3) ∧ put m L3 (keyT d 2) = (v, 0, L4) ∧ (a = b ↔ P) ∧ (u = v ↔ P) ∧
      (a ∉ keys ∧ b ∉ keys ∧ a ∉ chains ∧ b ∉ chains) ∧ (u ∉ chains ∧ u ∉ keys ∧ v ∉ keys) ∧ (a ≠ u ∧ b ≠ v ∧ a ≠ v ∧ b ≠ u) ∧ ApSt L4 (i + 1) P u v (keys ++ [a, b]) (chains ++ [u, v]) ∧ L4.length ≤ L.length + 4 := by
  obtain ⟨hc1, hc2⟩ := h.lc.inn
  obtain ⟨hd1, hd2⟩ := h.ld.inn
  obtain ⟨a, L1, p1, a1, e1, g1, l1⟩ := put_ok (m := m) (L := L) (t := keyT c 1) h.good (may_key.2 ⟨hc1, hc2⟩) (by omega)
  have t1 := e1.len
  obtain ⟨b, L2, p2, a2, e2, g2, l2⟩ := put_ok (m := m) (L := L1) (t := keyT d 1) g1 (may_key.2 ⟨hd1, by omega⟩) (by omega)
  have t2 := e2.len
  obtain ⟨u, L3, p3, a3, e3, g3, l3⟩ := put_ok (m := m) (L := L2) (t := keyT c 2) g2 (may_key.2 ⟨hc1, by omega⟩) (by omega)
  have t3 := e3.len
  obtain ⟨v, L4, p4, a4, e4, g4, l4⟩ := put_ok (m := m) (L := L3) (t := keyT d 2) g3 (may_key.2 ⟨hd1, by omega⟩) (by omega)
  have f4 : Ext L L4 := ((e1.trans e2).trans e3).trans e4
  have b1 : At L4 a (keyT c 1) := a1.ext ((e2.trans e3).trans e4)
  have b2 : At L4 b (keyT d 1) := a2.ext (e3.trans e4)
  have b3 : At L4 u (keyT c 2) := a3.ext e4
  have lc := h.lc.ext f4
  have ld := h.ld.ext f4
  have hk : ∀ y ∈ keys, ∃ j k, j < i ∧ Lv L4 j k ∧ At L4 y (keyT k 1) := fun y hy => by
    obtain ⟨j, k, h1, h2, h3⟩ := h.keys y hy
    exact ⟨j, k, h1, h2.ext f4, h3.ext f4⟩
  have hs : ∀ y ∈ chains, ∃ j, j ≤ i ∧ Lv L4 j y := fun y hy => by
    obtain ⟨j, h1, h2⟩ := h.chains y hy
    exact ⟨j, h1, h2.ext f4⟩
  have lu : Lv L4 (i + 1) u := ⟨c, lc, b3⟩
  have lv : Lv L4 (i + 1) v := ⟨d, ld, a4⟩
  have nk : ∀ {x q : Int}, Lv L4 i q → At L4 x (keyT q 1) → x ∉ keys := fun {x q} hq hx hm => by
    obtain ⟨j, k, h1, h2, h3⟩ := hk x hm
    have := keyT_inj.1 (hx.same h3)
    subst this
    have := hq.uniq h2
    omega
  have nc : ∀ {x q : Int}, At L4 x (keyT q 1) → x ∉ chains := fun {x q} hx hm => by
    obtain ⟨j, _, h2⟩ := hs x hm
    exact h2.notKey hx
  have uk : ∀ {x : Int}, Lv L4 (i + 1) x → x ∉ keys := fun {x} hx hm => by
    obtain ⟨j, k, _, _, h3⟩ := hk x hm
    exact hx.notKey h3
  refine ⟨a, b, u, v, L1, L2, L3, L4, p1, p2, p3, p4, ?_, ?_, ⟨nk lc b1, nk ld b2, nc b1, nc b2⟩, ⟨?_, uk lu, uk lv⟩, ⟨?_, ?_, ?_, ?_⟩, ⟨g4, lu, lv, ?_, ?_, ?_⟩, by omega⟩
  · rw [at_iff g4 b1 b2, keyT_inj, h.eq]
  · rw [at_iff g4 b3 a4, keyT_inj, h.eq]
  · intro hm
    obtain ⟨j, h1, h2⟩ := hs u hm
    have := lu.uniq h2
    omega
  · rintro rfl; exact lu.notKey b1
  · rintro rfl; exact lv.notKey b2
  · rintro rfl; exact lv.notKey b1
  · rintro rfl; exact lu.notKey b2
  · rw [at_iff g4 b3 a4, keyT_inj, h.eq]
  · intro y hy
    rcases List.mem_append.1 hy with hy | hy
    · obtain ⟨j, k, h1, h2, h3⟩ := hk y hy
      exact ⟨j, k, by omega, h2, h3⟩
    · simp only [List.mem_cons, List.not_mem_nil, or_false] at hy
      rcases hy with rfl | rfl
      · exact ⟨i, c, by omega, lc, b1⟩
      · exact ⟨i, d, by omega, ld, b2⟩
  · intro y hy
    rcases List.mem_append.1 hy with hy | hy
    · obtain ⟨j, h1, h2⟩ := hs y hy
      exact ⟨j, by omega, h2⟩
    · simp only [List.mem_cons, List.not_mem_nil, or_false] at hy
      rcases hy with rfl | rfl
      · exact ⟨i + 1, Nat.le_refl _, lu⟩
      · exact ⟨i + 1, Nat.le_refl _, lv⟩

set_option maxRecDepth 100000 in
set_option maxHeartbeats 2000000 in
theorem has15_calls {l : List Int} {ad : Option Addr} {len cap : Nat} {w : World} (x : Int) (h : IntsAt w ad l) (hl : len = l.length) (hm : len ≤ 9223372036854775807) :
    Calls Try.prog 25 #[.slice ad len cap, .int .i64 x] w fun e w' => e = .returned (.bool (decide (x ∈ l))) ∧ w = w' := by
  have HL := hid hl
  have HI := hid h
  clear hl h
  go_enter Try.func25, Try.ntmps25
  go_wp2_with fail
  go_loopw [5] (fun i wr => ∃ j : Nat, j ≤ len ∧ i = .int .i64 j ∧ w = wr ∧ Hid (∀ r, r < j → l.getD r 0 ≠ x)) (fun i _ => len - (intOf i).toNat)
  case atStart => exact ⟨0, Nat.zero_le _, rfl, rfl, hid fun r hr => by omega⟩
  case round =>
    obtain ⟨j, hj, rfl, rfl, HN⟩ := hrel
    by_cases hlt : j < len
    · have hd1 : decide ((j : Int) < (len : Int)) = true := by simpa using hlt
      have hjl : j < l.length := by rw [← HL.out]; exact hlt
      obtain ⟨g, o, rfl, hc⟩ := HI.out.resolve_left fun e => by rw [e] at hjl; simp at hjl
      have d1 := hc j hjl
      have zj0 : (0 : Int) ≤ (j : Int) := by omega
      have zj1 : (j : Int) < (len : Int) := by omega
      have hmem : l.getD j 0 ∈ l := by
        rw [List.getD_eq_getElem?_getD, List.getElem?_eq_getElem hjl]; exact List.getElem_mem _
      obtain ⟨y, hy⟩ : ∃ y, l.getD j 0 = y := ⟨_, rfl⟩
      rw [hy] at d1 hmem
      have HY := hid hy
      have HM := hid hmem
      clear hc hlt hjl hy hmem
      by_cases he : y = x
      · have e1 : (y == x) = true := by simpa using he
        have HM2 : Hid (x ∈ l) := hid (he ▸ HM.out)
        clear he
        go_wp2_with fail
        go_ret
        exact ⟨by rw [decide_eq_true HM2.out]; rfl, rfl⟩
      · have e1 : (y == x) = false := by simpa using he
        have HN2 : Hid (∀ r, r < j + 1 → l.getD r 0 ≠ x) := hid fun r hr => by
          by_cases e : r = j
          · subst e; rw [HY.out]; exact he
          · exact HN.out r (by omega)
        clear he
        go_wp2_with fail
        go_roundw
        case rel => exact ⟨j + 1, by omega, by go_num, by first | rfl | trivial, HN2⟩
        case measure => simp [intOf]; omega
    · have hd1 : decide ((j : Int) < (len : Int)) = false := by simp; omega
      have hd2 : decide (j < len) = false := by simp; omega
      have hno : ¬ x ∈ l := fun hx => by
        obtain ⟨i, hi, e⟩ := List.getElem_of_mem hx
        refine HN.out i (by rw [← HL.out] at hi; omega) ?_
        rw [List.getD_eq_getElem?_getD, List.getElem?_eq_getElem hi]; exact e
      have HX := hid hno
      clear hlt hno
      go_wp2_with fail
      go_ret
      exact ⟨by rw [decide_eq_false HX.out]; rfl, rfl⟩
theorem has15_no {l : List Int} {ad : Option Addr} {len cap : Nat} {w : World} {x : Int} (hx : x ∉ l) (h : IntsAt w ad l) (hl : len = l.length) (hm : len ≤ 9223372036854775807) :
    Calls Try.prog 25 #[.slice ad len cap, .int .i64 x] w fun e w' => e = .returned (.bool false) ∧ w = w' := by
  have := has15_calls (cap := cap) x h hl hm
  rw [decide_eq_false hx] at this
  exact this
section
variable {W w : World} {Rs : List Res} {E : TypeId}
theorem Hd.row_newk (k : Nat) (hk : w.heap.size = k) (h : Hd W w Rs) : Hd W (w.alloc (.cells #[] E (0, 0))) (RowR E 1 (.slice (some ⟨k, 0, none⟩) 0 0) 0 (nums .i64 []) :: Rs) := by
  subst hk
  exact h.row_new
/-- A row that is written out. -/
theorem Hd.row_lit (k : Nat) (hk : w.heap.size = k) (zs : List Int) {cs : Array Value} {n : Nat} (hcs : cs = (nums .i64 zs).toArray) (hn : n = zs.length) (hm : n ≤ maxLen) (h : Hd W w Rs) : Hd W (w.alloc (.cells cs E (0, 0))) (RowR E 1 (.slice (some ⟨k, 0, none⟩) n n) n (nums .i64 zs) :: Rs) := by
  subst hk hcs hn
  refine h.add ((Below.refl _ _).alloc (Nat.le_refl _) _) (fun j => if j = w.heap.size then some (.cells (nums .i64 zs).toArray E (0, 0)) else none) ⟨by simp [nums], .inr ⟨w.heap.size, zs.length, (nums .i64 zs).toArray, rfl, Nat.le_refl _, hm, by simp [nums], by rw [List.take_of_length_le (by simp [nums])], rfl⟩⟩ (fun k o hk => ?_) (fun k hk => ?_)
  · dsimp only at hk
    split at hk
    · rename_i e1; subst e1; rw [heap_at rfl]; exact hk
    · cases hk
  · split at hk
    · omega
    · exact absurd rfl hk
theorem Hd.row_is {v : Value} {n : Nat} {ks : List Int} (h : Hd W w (RowR 3 1 v n (nums .i64 ks) :: Rs)) : ∃ ad cap, v = .slice ad n cap ∧ n = ks.length ∧ n ≤ maxLen ∧ IntsAt w ad ks := by
  have hl : n = ks.length := by
    obtain ⟨f, hR, _⟩ := h.open
    have := hR.1
    simpa [nums] using this.symm
  have hm : n ≤ maxLen := by
    obtain ⟨f, hR, _⟩ := h.open
    obtain ⟨_, ⟨_, rfl, _⟩ | ⟨_, cap, _, _, h1, h2, _⟩⟩ := hR
    · exact Nat.zero_le _
    · omega
  subst hl
  obtain ⟨ad, cap, e, hi⟩ := row_ints h
  exact ⟨ad, cap, e, rfl, hm, hi⟩
end
end Go.Proofs.Ytpcfmafokkffgaa
namespace Go.Proofs.Ytpcfmafokkffgaa
open Go.RowKit

def lenOf : Value → Nat
  | .slice _ n _ => n
  | _ => 0

theorem to15_old {m : Int} {L : List T} {k e x : Int} (h : x < e) : to15 m L k e x = ((0, 0), [], 12, L) := by
  unfold to15
  rw [if_pos h]
theorem to15_lim {m : Int} {L : List T} {k e x : Int} (h : 4 < x - e) : to15 m L k e x = ((0, 0), [], 13, L) := by
  unfold to15
  rw [if_neg (by omega), if_pos h]
theorem to15_of {m : Int} {L : List T} {k e x : Int} {n : Nat} (hn : e + n = x) (h4 : n ≤ 4) : to15 m L k e x = if (steps15 m n L k e).2.2.1 = 0 then ((steps15 m n L k e).2.1, (steps15 m n L k e).1, 0, (steps15 m n L k e).2.2.2) else ((0, 0), [], (steps15 m n L k e).2.2.1, (steps15 m n L k e).2.2.2) := by
  unfold to15
  rw [if_neg (by omega), if_neg (by omega), show (x - e).toNat = n by omega]

/-- Where the loop stands: what is still to come of it. -/
def ToSt (m : Int) (n : Nat) (L : List T) (k e : Int) (i : Nat) (L' : List T) (k' : Int) (pre : List Int) : Prop :=
  steps15 m n L k e = (pre ++ (steps15 m (n - i) L' k' (e + i)).1, (steps15 m (n - i) L' k' (e + i)).2)

theorem ToSt.start {m : Int} {n : Nat} {L : List T} {k e : Int} : ToSt m n L k e 0 L k [] := by simp [ToSt]
theorem ToSt.seal {m : Int} {n i : Nat} {L L' L1 : List T} {k e k' p1 p2 : Int} {pre : List Int} (h : ToSt m n L k e i L' k' pre) (hi : i < n) (hp : put m L' (keyT k' 1) = (p1, p2, L1)) (h0 : p2 ≠ 0) :
    (steps15 m n L k e).2.2.1 = p2 ∧ (steps15 m n L k e).2.2.2 = L1 := by
  unfold ToSt at h
  rw [show n - i = (n - i - 1) + 1 by omega, steps15_succ, hp] at h
  dsimp only at h
  rw [if_neg h0] at h
  rw [h]
  exact ⟨rfl, rfl⟩
theorem ToSt.next {m : Int} {n i : Nat} {L L' L1 L2 : List T} {k e k' p1 r2 : Int} {d : Int × Int} {pre : List Int} (h : ToSt m n L k e i L' k' pre) (hi : i < n) (hp : put m L' (keyT k' 1) = (p1, 0, L1)) (hn : next15 m L1 k' (e + i) = (d, r2, L2)) (h0 : r2 ≠ 0) :
    (steps15 m n L k e).2.2.1 = r2 ∧ (steps15 m n L k e).2.2.2 = L2 := by
  unfold ToSt at h
  rw [show n - i = (n - i - 1) + 1 by omega, steps15_succ, hp] at h
  dsimp only at h
  rw [if_pos rfl, hn] at h
  dsimp only at h
  rw [if_neg h0] at h
  rw [h]
  exact ⟨rfl, rfl⟩
theorem ToSt.step {m : Int} {n i : Nat} {L L' L1 L2 : List T} {k e k' p1 dk de : Int} {pre : List Int} (h : ToSt m n L k e i L' k' pre) (hi : i < n) (hp : put m L' (keyT k' 1) = (p1, 0, L1)) (hn : next15 m L1 k' (e + i) = ((dk, de), 0, L2)) :
    ToSt m n L k e (i + 1) L2 dk (pre ++ [p1]) ∧ de = e + (i + 1 : Nat) := by
  have hd := (next15_epoch hn).1
  refine ⟨?_, by omega⟩
  unfold ToSt at h ⊢
  rw [show n - i = (n - i - 1) + 1 by omega, steps15_succ, hp] at h
  dsimp only at h
  rw [if_pos rfl, hn] at h
  dsimp only at h
  rw [if_pos rfl, hd] at h
  rw [h, show n - (i + 1) = n - i - 1 by omega, show e + (((i + 1 : Nat)) : Int) = e + i + 1 by omega]
  simp
theorem ToSt.done {m : Int} {n : Nat} {L L' : List T} {k e k' : Int} {pre : List Int} (h : ToSt m n L k e n L' k' pre) : steps15 m n L k e = (pre, (k', e + n), 0, L') := by
  unfold ToSt at h
  rw [Nat.sub_self] at h
  simpa [steps15] using h

section
variable {W w : World} {Rs : List Res} {b : Nat} {L : List T} {m : Int}
set_option maxRecDepth 100000 in
set_option maxHeartbeats 8000000 in
theorem rto_calls (k e x : Int) (bx : -9223372036854775808 ≤ x) (bx' : x ≤ 9223372036854775807) (be : -9223372036854775808 ≤ e) (be' : e ≤ 9223372036854775807) (h : Hd W w (RSto b L m :: Rs)) {q : (Int × Int) × List Int × Int × List T} (hq : to15 m L k e x = q) :
    Calls Try.prog 30 #[.pointer (some ⟨b, 0, none⟩), .agg #[.int .i64 k, .int .i64 e], .int .i64 x] w fun e' w' => ∃ v, e' = .returned (.tuple #[.agg #[.int .i64 q.1.1, .int .i64 q.1.2], v, .int .i64 q.2.2.1]) ∧ Hd W w' (RowR 3 1 v q.2.1.length (nums .i64 q.2.1) :: RSto b q.2.2.2 m :: Rs) := by
  have H := hid (((h.boxk (o := .cells #[.int .i64 k, .int .i64 e] 57 (0, 0)) w.heap.size rfl).boxk (o := .cells #[.int .i64 0, .int .i64 0] 57 (0, 0)) (w.heap.size + 1) (by simp)).front 2 rfl)
  clear h
  obtain ⟨wo, hwo⟩ : ∃ wo, (w.alloc (.cells #[.int .i64 k, .int .i64 e] 57 (0, 0))).alloc (.cells #[.int .i64 0, .int .i64 0] 57 (0, 0)) = wo := ⟨_, rfl⟩
  rw [hwo] at H
  have hk := Hd.nthk 2 H.out rfl
  have c0 := (cell_of_heap hk 0).trans (show _ = some (.int .i64 k) from rfl)
  have c1 := (cell_of_heap hk 1).trans (show _ = some (.int .i64 e) from rfl)
  have cs := (Array.getElem?_eq_some_iff.1 hk).1
  clear hk
  have hk := Hd.nthk 1 H.out rfl
  have q0 := (cell_of_heap hk 0).trans (show _ = some (.int .i64 0) from rfl)
  have q1 := (cell_of_heap hk 1).trans (show _ = some (.int .i64 0) from rfl)
  have qs := (Array.getElem?_eq_some_iff.1 hk).1
  have qf := frozen_of_heap hk
  clear hk
  by_cases h1 : x < e
  · have d1 : decide (x < e) = true := by simpa using h1
    rw [to15_old h1] at hq
    have HQ := hid hq
    clear hq h1
    go_enter Try.func30, Try.ntmps30
    go_wp2_with fail
    refine bodyPost_ret (v := .tuple #[.agg #[.int .i64 0, .int .i64 0], .slice none 0 0, .int .i64 12]) (by simp [results, Try.results30, go_sem, q0, q1]) rfl ?_
    rw [← HQ.out]
    exact ⟨.slice none 0 0, rfl, Hd.row_nil15 (((((H.out.front 1 rfl).set 0 (.int .i64 0)).set 1 (.int .i64 0)).drop).un2)⟩
  have d1 : decide (x < e) = false := by simp; omega
  go_enter Try.func30, Try.ntmps30
  go_wp2_with fail
  have HQ := hid hq
  have HW := hid hwo
  clear hq hwo
  go_loopw [9, 10] (fun s9 s10 wr => ∃ a : Nat, a ≤ 5 ∧ e + a ≤ x ∧ s9 = .int .i64 a ∧ s10 = .int .i64 (e + a) ∧ wo = wr) (fun s9 _ _ => 5 - (intOf s9).toNat)
  case atStart => exact ⟨0, by omega, by omega, rfl, by simp, rfl⟩
  case round =>
    obtain ⟨a, ha, hax, rfl, rfl, rfl⟩ := hrel
    by_cases h5 : a = 5
    · have HF : Hid (4 < x - e) := hid (by omega)
      have f2 : decide ((a : Int) ≤ 4) = false := by simp; omega
      have f3 : decide (4 < (a : Int)) = true := by simp; omega
      have f5 : (e + (a : Int) != x) = true ∨ (e + (a : Int) != x) = false := by cases h : (e + (a : Int) != x) <;> simp
      rw [to15_lim HF.out] at HQ
      clear h5 ha hax
      rcases f5 with f5 | f5
      all_goals
        go_wp2_with fail
        refine bodyPost_ret (v := .tuple #[.agg #[.int .i64 0, .int .i64 0], .slice none 0 0, .int .i64 13]) (by simp [results, Try.results30, go_sem, q0, q1]) rfl ?_
        rw [← HQ.out]
        exact ⟨.slice none 0 0, rfl, Hd.row_nil15 (((((H.out.front 1 rfl).set 0 (.int .i64 0)).set 1 (.int .i64 0)).drop).un2)⟩
    by_cases hx : e + (a : Int) = x
    · have f5 : (e + (a : Int) != x) = false := by simpa using hx
      have f3 : decide (4 < (a : Int)) = false := by simp; omega
      have HX := hid hx
      have hQ := HQ.out
      rw [to15_of hx (by omega)] at hQ
      have HR := hid hQ
      have ha4 : a ≤ 4 := by omega
      clear hQ HQ h5 hx hax ha c0 c1 q0 q1 qs qf cs
      go_wp2_with fail
      have HB := hid (H.out.row_newk (E := 3) wo.heap.size rfl)
      clear H f5 f3 d1
      go_loopw [11] (fun s wr => ∃ i : Nat, i ≤ a ∧ ∃ (pa : Option Addr) (pc : Nat) (pre : List Int) (k' : Int) (L' : List T), s = .slice pa i pc ∧ Hid (ToSt m a L k e i L' k' pre) ∧ Hid (Hd W wr (RowR 3 1 (.slice pa i pc) i (nums .i64 pre) :: RSto b L' m :: Blk (w.heap.size + 1) (.cells #[.int .i64 0, .int .i64 0] 57 (0, 0)) :: Blk w.heap.size (.cells #[.int .i64 k', .int .i64 (e + i)] 57 (0, 0)) :: Rs))) (fun s _ => a - lenOf s)
      case atStart => exact ⟨0, Nat.zero_le _, _, _, [], k, L, rfl, hid .start, hid (by simpa using HB.out)⟩
      case round =>
        clear HB
        obtain ⟨i, hi, pa, pc, pre, k', L', rfl, ST, H⟩ := hrel
        obtain ⟨wl, hwl⟩ : ∃ wl : World, wl = wr := ⟨_, rfl⟩
        rw [← hwl] at H ⊢
        clear hwl wr
        by_cases hlt : i < a
        · have f5 : (e + (i : Int) != x) = true := by have := HX.out; rw [bne_iff_ne]; omega
          obtain ⟨p1, p2, L1, hs⟩ : ∃ p1 p2 L1, put m L' (keyT k' 1) = (p1, p2, L1) := ⟨_, _, _, rfl⟩
          have HS := hid hs
          have HLT := hid hlt
          clear hs hlt
          have hk := Hd.nthk 3 H.out rfl
          have ba0 := (cell_of_heap hk 0).trans (show _ = some (.int .i64 (k')) from rfl)
          have ba1 := (cell_of_heap hk 1).trans (show _ = some (.int .i64 (e + i)) from rfl)
          have bas := (Array.getElem?_eq_some_iff.1 hk).1
          clear hk
          have HB := hid (H.out.front 1 rfl)
          clear H
          go_wp2_with fail
          refine (rseal15_calls k' (e + i) HS.out HB.out).mono ?_
          rintro e2 w1 ⟨rfl, h1⟩
          clear HB ba0 ba1 bas
          have H := hid h1
          clear h1
          by_cases hz : p2 = 0
          · subst hz
            obtain ⟨⟨dk, de⟩, r2, L2, hn⟩ : ∃ d r2 L2, next15 m L1 k' (e + i) = (d, r2, L2) := ⟨_, _, _, rfl⟩
            have HN := hid hn
            clear hn
            have hk := Hd.nthk 3 H.out rfl
            have ba0 := (cell_of_heap hk 0).trans (show _ = some (.int .i64 (k')) from rfl)
            have ba1 := (cell_of_heap hk 1).trans (show _ = some (.int .i64 (e + i)) from rfl)
            have bas := (Array.getElem?_eq_some_iff.1 hk).1
            clear hk
            go_wp2_with fail
            refine (rnext15_calls k' (e + i) HN.out H.out).mono ?_
            rintro e2 w2 ⟨rfl, h1⟩
            clear H ba0 ba1 bas
            have H := hid h1
            clear h1
            by_cases hz : r2 = 0
            · subst hz
              obtain ⟨st, hde⟩ := ST.out.step HLT.out HS.out HN.out
              have ST2 := hid st
              have HDE := hid hde
              clear st ST hde
              obtain ⟨i0, hi0, hz0, hs0, hy0⟩ := info_int
              have Hi0 := hid hi0
              have Hz0 := hid hz0
              have Hs0 := hid hs0
              have Hy0 := hid hy0
              clear hi0 hz0 hs0 hy0
              have HB := hid ((H.out.bx (o := .cells #[.int .i64 dk, .int .i64 de] 57 (0, 0))).front 2 rfl)
              clear H
              go_wp2_with (at_builtin; refine append_num (k := .i64) (zs := pre) Try.underlying33 Hi0.out Hz0.out Hs0.out Hy0.out (by decide) rfl (.tmp 62) (.tmp 64) rfl HB.out (by rfl) p1 (by first | rfl | simp [Act.eval]) (by omega) ?_; intro g5 c5 w9 hq; have H := hid hq; clear hq HB; have hk := Hd.nthk 2 H.out rfl; have bb0 := (cell_of_heap hk 0).trans (show _ = some (.int .i64 (dk)) from rfl); have bb1 := (cell_of_heap hk 1).trans (show _ = some (.int .i64 (de)) from rfl); have bbs := (Array.getElem?_eq_some_iff.1 hk).1; clear hk; have hk := Hd.nthk 4 H.out rfl; have ba0 := (cell_of_heap hk 0).trans (show _ = some (.int .i64 (k')) from rfl); have ba1 := (cell_of_heap hk 1).trans (show _ = some (.int .i64 (e + i)) from rfl); have bas := (Array.getElem?_eq_some_iff.1 hk).1; have baf := frozen_of_heap hk; clear hk)
              go_roundw
              case rel =>
                refine ⟨i + 1, (by have := HLT.out; omega), _, _, pre ++ [p1], dk, L2, rfl, ST2, hid ?_⟩
                have h9 := (((H.out.front 4 rfl).set 0 (.int .i64 dk)).set 1 (.int .i64 de))
                rw [← HDE.out]
                exact ((((h9.front 4 rfl).front 3 rfl).front 3 rfl).front 4 rfl).drop
              case measure => have := HLT.out; simp [lenOf]; omega
            · have g1 : (r2 != 0) = true := by rw [bne_iff_ne]; exact hz
              have g2 : decide (r2 = 0) = false := by simpa using hz
              obtain ⟨st1, st2⟩ := ST.out.next HLT.out HS.out HN.out hz
              rw [st1, st2, if_neg hz] at HR
              clear hz st1 st2
              have hk := Hd.nthk 2 H.out rfl
              have q0 := (cell_of_heap hk 0).trans (show _ = some (.int .i64 (0)) from rfl)
              have q1 := (cell_of_heap hk 1).trans (show _ = some (.int .i64 (0)) from rfl)
              have qs := (Array.getElem?_eq_some_iff.1 hk).1
              have qf := frozen_of_heap hk
              clear hk
              go_wp2_with fail
              refine bodyPost_ret (v := .tuple #[.agg #[.int .i64 0, .int .i64 0], .slice none 0 0, .int .i64 r2]) (by simp [results, Try.results30, go_sem, q0, q1, qs]) rfl ?_
              rw [← HR.out]
              refine ⟨.slice none 0 0, rfl, ?_⟩
              first | exact Hd.row_nil15 ((((((H.out.front 2 rfl).set 0 (.int .i64 0)).set 1 (.int .i64 0)).drop).un2.un2).al) | exact Hd.row_nil15 ((((((H.out.al (o := .cells #[.int .i64 dk, .int .i64 de] 57 (0, 0))).front 2 rfl).set 0 (.int .i64 0)).set 1 (.int .i64 0)).drop).un2.un2)
          · have g1 : (p2 != 0) = true := by rw [bne_iff_ne]; exact hz
            have g2 : decide (p2 = 0) = false := by simpa using hz
            obtain ⟨st1, st2⟩ := ST.out.seal HLT.out HS.out hz
            rw [st1, st2, if_neg hz] at HR
            clear hz st1 st2
            have hk := Hd.nthk 2 H.out rfl
            have q0 := (cell_of_heap hk 0).trans (show _ = some (.int .i64 (0)) from rfl)
            have q1 := (cell_of_heap hk 1).trans (show _ = some (.int .i64 (0)) from rfl)
            have qs := (Array.getElem?_eq_some_iff.1 hk).1
            have qf := frozen_of_heap hk
            clear hk
            go_wp2_with fail
            refine bodyPost_ret (v := .tuple #[.agg #[.int .i64 0, .int .i64 0], .slice none 0 0, .int .i64 p2]) (by simp [results, Try.results30, go_sem, q0, q1]) rfl ?_
            rw [← HR.out]
            exact ⟨.slice none 0 0, rfl, Hd.row_nil15 (((((H.out.front 2 rfl).set 0 (.int .i64 0)).set 1 (.int .i64 0)).drop).un2.un2)⟩
        · obtain rfl : i = a := by omega
          have f5 : (e + (i : Int) != x) = false := by have := HX.out; simpa using this
          have st := ST.out.done
          have hR := HR.out
          rw [st] at hR
          simp only [if_true] at hR
          have HR2 := hid hR
          clear st HR hR hlt
          have hk := Hd.nthk 3 H.out rfl
          have ba0 := (cell_of_heap hk 0).trans (show _ = some (.int .i64 (k')) from rfl)
          have ba1 := (cell_of_heap hk 1).trans (show _ = some (.int .i64 (e + i)) from rfl)
          have bas := (Array.getElem?_eq_some_iff.1 hk).1
          clear hk
          have hk := Hd.nthk 2 H.out rfl
          have q0 := (cell_of_heap hk 0).trans (show _ = some (.int .i64 (0)) from rfl)
          have q1 := (cell_of_heap hk 1).trans (show _ = some (.int .i64 (0)) from rfl)
          have qs := (Array.getElem?_eq_some_iff.1 hk).1
          have qf := frozen_of_heap hk
          clear hk
          go_wp2_with fail
          refine bodyPost_ret (v := .tuple #[.agg #[.int .i64 k', .int .i64 (e + i)], .slice pa i pc, .int .i64 0]) (by simp [results, Try.results30, go_sem, q0, q1]) rfl ?_
          rw [← HR2.out]
          obtain ⟨_, _, _, hl, _⟩ := H.out.row_is
          refine ⟨.slice pa i pc, rfl, ?_⟩
          rw [← hl]
          exact (((((H.out.front 2 rfl).set 0 (.int .i64 k')).set 1 (.int .i64 (e + i))).drop).front 2 rfl).drop
    · have f5 : (e + (a : Int) != x) = true := by rw [bne_iff_ne]; exact hx
      have f2 : decide ((a : Int) ≤ 4) = true := by simp; omega
      have z1 : IntKind.i64.wrap (e + (a : Int) + 1) = e + a + 1 := IntWalk.i64_in _ (by omega)
      have z2 : IntKind.i64.wrap ((a : Int) + 1) = a + 1 := IntWalk.i64_in _ (by omega)
      go_wp2_with fail
      go_roundw
      case rel => exact ⟨a + 1, by omega, by omega, by go_num, by rw [show e + ((a + 1 : Nat) : Int) = e + a + 1 by omega], by first | rfl | trivial⟩
      case measure => simp [intOf]; omega
end
end Go.Proofs.Ytpcfmafokkffgaa
