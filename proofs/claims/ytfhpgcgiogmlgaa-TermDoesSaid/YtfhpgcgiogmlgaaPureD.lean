/-
  Laws on how deep the terms of a plain store are. For every list of terms; each law's own conditions alone.
-/
import Derived.Test.YtfhpgcgiogmlgaaPureB
namespace Go.Proofs.Ytfhpgcgiogmlgaa

theorem deepest_nn (ds ps : List Int) : 0 ≤ deepest ds ps := by
  unfold deepest
  have key : ∀ (ps : List Int) (m : Int), m ≤ ps.foldl (fun m p => max m (ds.getD p.toNat 0)) m := by
    intro ps
    induction ps with
    | nil => intro m; exact Int.le_refl _
    | cons p ps ih => intro m; exact Int.le_trans (Int.le_max_left _ _) (ih _)
  exact key ps 0

theorem depth_out {L : List T} {x : Int} (h : x < 1 ∨ (L.length : Int) < x) : depth L x = 0 := by
  unfold depth; rw [if_neg (by omega)]

/-- How deep the terms are, is told on. -/
theorem depths_ext (L M : List T) : ∃ E, depths (L ++ M) = depths L ++ E := by
  have key : ∀ (M : List T) (ds : List Int), ∃ E, M.foldl (fun ds t => ds ++ [deepest ds t.parts + 1]) ds = ds ++ E := by
    intro M
    induction M with
    | nil => intro ds; exact ⟨[], by simp⟩
    | cons t M ih =>
      intro ds
      obtain ⟨E, hE⟩ := ih (ds ++ [deepest ds t.parts + 1])
      exact ⟨[deepest ds t.parts + 1] ++ E, by rw [List.foldl_cons, hE, List.append_assoc]⟩
  obtain ⟨E, hE⟩ := key M (depths L)
  refine ⟨E, ?_⟩
  rw [← hE]
  simp only [depths, List.foldl_append]

theorem deepest_congr {ds es : List Int} : ∀ {ps : List Int}, (∀ p ∈ ps, ds.getD p.toNat 0 = es.getD p.toNat 0) → deepest ds ps = deepest es ps := by
  intro ps h
  unfold deepest
  have key : ∀ (ps : List Int) (m : Int), (∀ p ∈ ps, ds.getD p.toNat 0 = es.getD p.toNat 0) → ps.foldl (fun m p => max m (ds.getD p.toNat 0)) m = ps.foldl (fun m p => max m (es.getD p.toNat 0)) m := by
    intro ps
    induction ps with
    | nil => intro m _; rfl
    | cons p ps ih =>
      intro m h
      simp only [List.foldl_cons]
      rw [h p (by simp), ih _ fun q hq => h q (by simp [hq])]
  exact key ps 0 h

theorem take_split {L : List T} {j : Nat} {t : T} (h : L[j]? = some t) : L = L.take j ++ [t] ++ L.drop (j + 1) := by
  have hj := (List.getElem?_eq_some_iff.1 h).1
  have e : L.drop j = t :: L.drop (j + 1) := by
    rw [List.drop_eq_getElem_cons hj]
    congr 1
    exact (List.getElem?_eq_some_iff.1 h).2
  rw [List.append_assoc, List.singleton_append, ← e, List.take_append_drop]

/-- A term is one deeper than the deepest of its parts. -/
theorem depth_at {L : List T} {j : Nat} {t : T} (g : Good L) (h : L[j]? = some t) : depth L ((j : Int) + 1) = deepest (depths L) t.parts + 1 := by
  have hj := (List.getElem?_eq_some_iff.1 h).1
  have hs := take_split h
  obtain ⟨E, hE⟩ := depths_ext (L.take j ++ [t]) (L.drop (j + 1))
  rw [← hs] at hE
  have hl : (depths (L.take j)).length = j + 1 := by rw [depths_length]; simp; omega
  have hd : depths (L.take j ++ [t]) = depths (L.take j) ++ [deepest (depths (L.take j)) t.parts + 1] := depths_snoc _ _
  unfold depth
  rw [if_pos ⟨by omega, by omega⟩, show ((j : Int) + 1).toNat = j + 1 from by omega, hE, hd]
  have e1 : (depths (L.take j) ++ [deepest (depths (L.take j)) t.parts + 1] ++ E).getD (j + 1) 0 = deepest (depths (L.take j)) t.parts + 1 := by
    simp only [List.getD, List.append_assoc]
    rw [List.getElem?_append_right (by omega), hl]
    simp
  rw [e1]
  congr 1
  refine deepest_congr fun p hp => ?_
  have hb := (g.may j t h).2.2.2.2.2 p hp
  simp only [List.getD, List.append_assoc]
  rw [List.getElem?_append_left (by omega)]

/-- The deepest of some names. -/
def deepP (L : List T) (ps : List Int) : Int := ps.foldl (fun m p => max m (depth L p)) 0

theorem deepP_eq {L : List T} : ∀ {ps : List Int}, (∀ p ∈ ps, 1 ≤ p ∧ p ≤ L.length) → deepest (depths L) ps = deepP L ps := by
  intro ps h
  unfold deepest deepP
  have key : ∀ (ps : List Int) (m : Int), (∀ p ∈ ps, 1 ≤ p ∧ p ≤ L.length) → ps.foldl (fun m p => max m ((depths L).getD p.toNat 0)) m = ps.foldl (fun m p => max m (depth L p)) m := by
    intro ps
    induction ps with
    | nil => intro m _; rfl
    | cons p ps ih =>
      intro m h
      simp only [List.foldl_cons]
      rw [ih _ fun q hq => h q (by simp [hq])]
      congr 2
      unfold depth
      rw [if_pos (h p (by simp))]
  exact key ps 0 h

theorem deepP_take {L : List T} {ps : List Int} {k : Nat} (h : k < ps.length) : deepP L (ps.take (k + 1)) = max (deepP L (ps.take k)) (depth L (ps.getD k 0)) := by
  rw [List.take_succ_eq_append_getElem h]
  simp only [deepP, List.foldl_append, List.foldl_cons, List.foldl_nil]
  simp [List.getD, List.getElem?_eq_getElem h]

theorem depth_le {L : List T} : ∀ x ∈ depths L, 0 ≤ x ∧ x ≤ (L.length : Int) := by
  have key : ∀ (L : List T) (ds : List Int) (n : Int), 0 ≤ n → (∀ x ∈ ds, 0 ≤ x ∧ x ≤ n) → ∀ x ∈ L.foldl (fun ds t => ds ++ [deepest ds t.parts + 1]) ds, 0 ≤ x ∧ x ≤ n + L.length := by
    intro L
    induction L with
    | nil => intro ds n _ h; simpa using h
    | cons t L ih =>
      intro ds n hn h x hx
      have hd : 0 ≤ deepest ds t.parts ∧ deepest ds t.parts ≤ n := by
        refine ⟨deepest_nn _ _, ?_⟩
        unfold deepest
        have k2 : ∀ (ps : List Int) (m : Int), m ≤ n → ps.foldl (fun m p => max m (ds.getD p.toNat 0)) m ≤ n := by
          intro ps
          induction ps with
          | nil => intro m hm; exact hm
          | cons p ps ih2 =>
            intro m hm
            simp only [List.foldl_cons]
            refine ih2 _ ?_
            have : ds.getD p.toNat 0 ≤ n := by
              simp only [List.getD]
              cases hp : ds[p.toNat]? with
              | none => simpa using hn
              | some y => simpa using (h y (List.mem_of_getElem? hp)).2
            omega
        exact k2 t.parts 0 hn
      have := ih (ds ++ [deepest ds t.parts + 1]) (n + 1) (by omega) (fun y hy => by
        simp only [List.mem_append, List.mem_singleton] at hy
        rcases hy with hy | rfl
        · have := h y hy; omega
        · omega) x hx
      simp only [List.length_cons]
      omega
  have := key L [0] 0 (by omega) (by simp)
  simpa [depths] using this

theorem depth_range (L : List T) (x : Int) : 0 ≤ depth L x ∧ depth L x ≤ L.length := by
  unfold depth
  split
  · simp only [List.getD]
    cases hp : (depths L)[x.toNat]? with
    | none => simp
    | some y => simpa using depth_le y (List.mem_of_getElem? hp)
  · omega

theorem deepP_range (L : List T) (ps : List Int) : 0 ≤ deepP L ps ∧ deepP L ps ≤ L.length := by
  unfold deepP
  have key : ∀ (ps : List Int) (m : Int), 0 ≤ m → m ≤ L.length → 0 ≤ ps.foldl (fun m p => max m (depth L p)) m ∧ ps.foldl (fun m p => max m (depth L p)) m ≤ L.length := by
    intro ps
    induction ps with
    | nil => intro m h0 h1; exact ⟨h0, h1⟩
    | cons p ps ih =>
      intro m h0 h1
      have := depth_range L p
      exact ih (max m (depth L p)) (by omega) (by omega)
  exact key ps 0 (by omega) (by omega)

theorem depth_pos {L : List T} {x : Int} (h1 : 1 ≤ x) (h2 : x ≤ L.length) : 1 ≤ depth L x := by
  have key : ∀ (L : List T) (ds : List Int), (∀ i, 1 ≤ i → i < ds.length → 1 ≤ ds.getD i 0) → ∀ i, 1 ≤ i → i < (L.foldl (fun ds t => ds ++ [deepest ds t.parts + 1]) ds).length → 1 ≤ (L.foldl (fun ds t => ds ++ [deepest ds t.parts + 1]) ds).getD i 0 := by
    intro L
    induction L with
    | nil => intro ds h; exact h
    | cons t L ih =>
      intro ds h
      refine ih _ fun i h1 h2 => ?_
      by_cases hi : i < ds.length
      · have := h i h1 hi
        simpa [List.getD, List.getElem?_append_left hi] using this
      · have e : i = ds.length := by simp at h2; omega
        subst e
        have := deepest_nn ds t.parts
        simp [List.getD]
        omega
  unfold depth
  rw [if_pos ⟨h1, h2⟩]
  refine key L [0] (fun i h1 h2 => by simp at h2; omega) x.toNat (by omega) ?_
  have := depths_length L
  unfold depths at this
  rw [this]; omega

/-- A part is less deep than what it is a part of. -/
theorem part_less {L : List T} {j : Nat} {t : T} {p : Int} (g : Good L) (h : L[j]? = some t) (hp : p ∈ t.parts) : depth L p < depth L ((j : Int) + 1) := by
  have hb : ∀ p ∈ t.parts, 1 ≤ p ∧ p ≤ (L.length : Int) := fun p hp => by
    have := (g.may j t h).2.2.2.2.2 p hp
    have := (List.getElem?_eq_some_iff.1 h).1
    omega
  rw [depth_at g h, deepP_eq hb]
  have key : ∀ (ps : List Int) (m : Int), m ≤ ps.foldl (fun m p => max m (depth L p)) m ∧ ∀ p ∈ ps, depth L p ≤ ps.foldl (fun m p => max m (depth L p)) m := by
    intro ps
    induction ps with
    | nil => intro m; exact ⟨Int.le_refl _, by simp⟩
    | cons q ps ih =>
      intro m
      obtain ⟨k1, k2⟩ := ih (max m (depth L q))
      simp only [List.foldl_cons]
      refine ⟨by omega, fun p hp => ?_⟩
      simp only [List.mem_cons] at hp
      rcases hp with rfl | hp
      · omega
      · exact k2 p hp
  have := (key t.parts 0).2 p hp
  unfold deepP
  omega
end Go.Proofs.Ytfhpgcgiogmlgaa
