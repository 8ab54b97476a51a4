/-
  Walks through (*term.Store).Put: a term's name. For every term and every memory that holds a store.
-/
import Derived.Test.YtpcfmafokkffgaaRegB
import Derived.StillTailTactics
namespace Go.Proofs.Ytpcfmafokkffgaa
open Go.RowKit

set_option maxRecDepth 100000 in
set_option maxHeartbeats 2000000 in
theorem put_no {b : Nat} {L : List T} {m : Int} {lb db mb lc dc : Nat} (k : Int) (s : ByteArray) (n a b' c : Int) {w : World} (h : StoAt w b L m lb db mb lc dc)
    (hm : ¬ T.may L.length ⟨k, s, n, a, b', c⟩) :
    Calls Try.prog 24 #[.pointer (some ⟨b, 0, none⟩), T.val ⟨k, s, n, a, b', c⟩] w fun e w' => e = .returned (.tuple #[.int .i64 0, .int .i64 1]) ∧ Below w.heap.size w w' := by
  have Hq : Hid (∀ w', StoAt w' b L m lb db mb lc dc → Calls Try.prog 57 #[.pointer (some ⟨b, 0, none⟩), .agg #[.int .i64 k, .string s, .int .u64 n, .int .i64 a, .int .i64 b', .int .i64 c]] w' fun e w'' =>
      e = .returned (.bool false) ∧ Below w'.heap.size w' w'') := hid fun w' h' => by
    have hq := may_calls k s n a b' c h'
    rw [decide_eq_false hm] at hq
    exact hq
  have Hs : Hid (∀ o, StoAt (w.alloc o) b L m lb db mb lc dc) := hid fun o => h.later ((Below.refl _ _).alloc (Nat.le_refl _) _)
  clear h hm
  simp only [T.val]
  go_enter Try.func24, Try.ntmps24
  go_wp2_with fail
  refine (Hq.out _ (Hs.out _)).mono ?_
  rintro e w1 ⟨rfl, hb1⟩
  go_wp2_with fail
  go_ret2
  exact ⟨rfl, ((Below.refl _ _).alloc (Nat.le_refl _) _).trans (hb1.mono (by simp <;> omega))⟩

set_option maxRecDepth 100000 in
set_option maxHeartbeats 2000000 in
theorem put_is {b : Nat} {L : List T} {m : Int} {lb db mb lc dc : Nat} (k : Int) (s : ByteArray) (n a b' c : Int) {w : World} (h : StoAt w b L m lb db mb lc dc)
    (hm : T.may L.length ⟨k, s, n, a, b', c⟩) {i : Nat} (hi : find ⟨k, s, n, a, b', c⟩ L = some i) :
    Calls Try.prog 24 #[.pointer (some ⟨b, 0, none⟩), T.val ⟨k, s, n, a, b', c⟩] w fun e w' => e = .returned (.tuple #[.int .i64 ((i : Int) + 1), .int .i64 0]) ∧ Below w.heap.size w w' := by
  have Hq : Hid (∀ w', StoAt w' b L m lb db mb lc dc → Calls Try.prog 57 #[.pointer (some ⟨b, 0, none⟩), .agg #[.int .i64 k, .string s, .int .u64 n, .int .i64 a, .int .i64 b', .int .i64 c]] w' fun e w'' =>
      e = .returned (.bool true) ∧ Below w'.heap.size w' w'') := hid fun w' h' => by
    have hq := may_calls k s n a b' c h'
    rw [decide_eq_true hm] at hq
    exact hq
  have Hk : Hid (∀ w', StoAt w' b L m lb db mb lc dc → ∀ w'', w''.heap[mb]? = w'.heap[mb]? → (Instr.lookup 116 (.map (some mb)) (.agg #[.int .i64 k, .string s, .int .u64 n, .int .i64 a, .int .i64 b', .int .i64 c]) true).run Try.prog w'' =
      .ok (.tuple #[.int .i64 ((i : Int) + 1), .bool true]) w'') := hid fun w' h' w'' hw => by
    obtain ⟨es, ck, h1, h2⟩ := h'.hm
    have := lookup_T ⟨k, s, n, a, b', c⟩ w'' (hw.trans h1) h2
    rw [hi] at this
    exact this
  have Hs : Hid (∀ o, StoAt (w.alloc o) b L m lb db mb lc dc) := hid fun o => h.later ((Below.refl _ _).alloc (Nat.le_refl _) _)
  clear h hm hi
  simp only [T.val]
  go_enter Try.func24, Try.ntmps24
  go_wp2_with fail
  refine (Hq.out _ (Hs.out _)).mono ?_
  rintro e w1 ⟨rfl, hb1⟩
  have hs1 := (Hs.out _).later hb1
  have hbox : w1.heap[w.heap.size]? = some (.cells #[.int .i64 k, .string s, .int .u64 n, .int .i64 a, .int .i64 b', .int .i64 c] 47) := by rw [hb1.block _ (by simp)]; exact heap_at rfl
  have hbw : Below w.heap.size w w1 := ((Below.refl _ _).alloc (Nat.le_refl _) _).trans (hb1.mono (by simp <;> omega))
  clear hb1
  go_wp2_with fail
  have c2 : ∀ x : Later w1, x.w.cell? ⟨b, 2, none⟩ = some (.map (some mb)) := fun x => x.cell hs1.c2
  have d0 : ∀ x : Later w1, x.w.cell? ⟨w.heap.size, 0, none⟩ = some (.int .i64 k) := fun x => x.cell (by rw [cell_of_heap hbox]; rfl)
  have d1 : ∀ x : Later w1, x.w.cell? ⟨w.heap.size, 1, none⟩ = some (.string s) := fun x => x.cell (by rw [cell_of_heap hbox]; rfl)
  have d2 : ∀ x : Later w1, x.w.cell? ⟨w.heap.size, 2, none⟩ = some (.int .u64 n) := fun x => x.cell (by rw [cell_of_heap hbox]; rfl)
  have d3 : ∀ x : Later w1, x.w.cell? ⟨w.heap.size, 3, none⟩ = some (.int .i64 a) := fun x => x.cell (by rw [cell_of_heap hbox]; rfl)
  have d4 : ∀ x : Later w1, x.w.cell? ⟨w.heap.size, 4, none⟩ = some (.int .i64 b') := fun x => x.cell (by rw [cell_of_heap hbox]; rfl)
  have d5 : ∀ x : Later w1, x.w.cell? ⟨w.heap.size, 5, none⟩ = some (.int .i64 c) := fun x => x.cell (by rw [cell_of_heap hbox]; rfl)
  have hlk : ∀ x : Later w1, (Instr.lookup 116 (.map (some mb)) (.agg #[.int .i64 k, .string s, .int .u64 n, .int .i64 a, .int .i64 b', .int .i64 c]) true).run Try.prog x.w = .ok (.tuple #[.int .i64 ((i : Int) + 1), .bool true]) x.w :=
    fun x => Hk.out _ hs1 _ (x.below.block _ hs1.mlt)
  have Hbox := hid hbox
  clear hbox
  refine wp_region_calm (by kernel_rfl) (by kernel_rfl) ?_
  repeat (go_big_quiet_step (fail))
  refine wpQuiet_nil ?_
  intro w3 hw3
  obtain ⟨⟨w3, hb3⟩, rfl⟩ := hw3
  clear c2 d0 d1 d2 d3 d4 d5 hlk
  go_wp2_with fail
  go_ret2
  exact ⟨rfl, hbw.trans (hb3.mono hbw.size)⟩
set_option maxRecDepth 100000 in
set_option maxHeartbeats 2000000 in
theorem put_full {b : Nat} {L : List T} {m : Int} {lb db mb lc dc : Nat} (k : Int) (s : ByteArray) (n a b' c : Int) {w : World} (h : StoAt w b L m lb db mb lc dc)
    (hm : T.may L.length ⟨k, s, n, a, b', c⟩) (hi : find ⟨k, s, n, a, b', c⟩ L = none) (hfull : m ≤ L.length) :
    Calls Try.prog 24 #[.pointer (some ⟨b, 0, none⟩), T.val ⟨k, s, n, a, b', c⟩] w fun e w' => e = .returned (.tuple #[.int .i64 0, .int .i64 4]) ∧ Below w.heap.size w w' := by
  have Hq : Hid (∀ w', StoAt w' b L m lb db mb lc dc → Calls Try.prog 57 #[.pointer (some ⟨b, 0, none⟩), .agg #[.int .i64 k, .string s, .int .u64 n, .int .i64 a, .int .i64 b', .int .i64 c]] w' fun e w'' =>
      e = .returned (.bool true) ∧ Below w'.heap.size w' w'') := hid fun w' h' => by
    have hq := may_calls k s n a b' c h'
    rw [decide_eq_true hm] at hq
    exact hq
  have Hk : Hid (∀ w', StoAt w' b L m lb db mb lc dc → ∀ w'', w''.heap[mb]? = w'.heap[mb]? → (Instr.lookup 116 (.map (some mb)) (.agg #[.int .i64 k, .string s, .int .u64 n, .int .i64 a, .int .i64 b', .int .i64 c]) true).run Try.prog w'' =
      .ok (.tuple #[.int .i64 0, .bool false]) w'') := hid fun w' h' w'' hw => by
    obtain ⟨es, ck, h1, h2⟩ := h'.hm
    have := lookup_T ⟨k, s, n, a, b', c⟩ w'' (hw.trans h1) h2
    rw [hi] at this
    exact this
  have Hs : Hid (∀ o, StoAt (w.alloc o) b L m lb db mb lc dc) := hid fun o => h.later ((Below.refl _ _).alloc (Nat.le_refl _) _)
  clear h hm hi
  simp only [T.val]
  go_enter Try.func24, Try.ntmps24
  go_wp2_with fail
  refine (Hq.out _ (Hs.out _)).mono ?_
  rintro e w1 ⟨rfl, hb1⟩
  have hs1 := (Hs.out _).later hb1
  have hbox : w1.heap[w.heap.size]? = some (.cells #[.int .i64 k, .string s, .int .u64 n, .int .i64 a, .int .i64 b', .int .i64 c] 47) := by rw [hb1.block _ (by simp)]; exact heap_at rfl
  have hbw : Below w.heap.size w w1 := ((Below.refl _ _).alloc (Nat.le_refl _) _).trans (hb1.mono (by simp <;> omega))
  clear hb1
  go_wp2_with fail
  have c2 : ∀ x : Later w1, x.w.cell? ⟨b, 2, none⟩ = some (.map (some mb)) := fun x => x.cell hs1.c2
  have d0 : ∀ x : Later w1, x.w.cell? ⟨w.heap.size, 0, none⟩ = some (.int .i64 k) := fun x => x.cell (by rw [cell_of_heap hbox]; rfl)
  have d1 : ∀ x : Later w1, x.w.cell? ⟨w.heap.size, 1, none⟩ = some (.string s) := fun x => x.cell (by rw [cell_of_heap hbox]; rfl)
  have d2 : ∀ x : Later w1, x.w.cell? ⟨w.heap.size, 2, none⟩ = some (.int .u64 n) := fun x => x.cell (by rw [cell_of_heap hbox]; rfl)
  have d3 : ∀ x : Later w1, x.w.cell? ⟨w.heap.size, 3, none⟩ = some (.int .i64 a) := fun x => x.cell (by rw [cell_of_heap hbox]; rfl)
  have d4 : ∀ x : Later w1, x.w.cell? ⟨w.heap.size, 4, none⟩ = some (.int .i64 b') := fun x => x.cell (by rw [cell_of_heap hbox]; rfl)
  have d5 : ∀ x : Later w1, x.w.cell? ⟨w.heap.size, 5, none⟩ = some (.int .i64 c) := fun x => x.cell (by rw [cell_of_heap hbox]; rfl)
  have hlk : ∀ x : Later w1, (Instr.lookup 116 (.map (some mb)) (.agg #[.int .i64 k, .string s, .int .u64 n, .int .i64 a, .int .i64 b', .int .i64 c]) true).run Try.prog x.w = .ok (.tuple #[.int .i64 0, .bool false]) x.w :=
    fun x => Hk.out _ hs1 _ (x.below.block _ hs1.mlt)
  have Hbox := hid hbox
  clear hbox
  refine wp_region_calm (by kernel_rfl) (by kernel_rfl) ?_
  repeat (go_big_quiet_step (fail))
  refine wpQuiet_nil ?_
  intro w3 hw3
  obtain ⟨⟨w3, hb3⟩, rfl⟩ := hw3
  clear c2 d0 d1 d2 d3 d4 d5 hlk
  go_wp2_with fail
  have hs3 := hs1.later hb3
  have hbw3 := hbw.trans (hb3.mono hbw.size)
  have hd : decide (m ≤ (L.length : Int)) = true := by simpa using hfull
  have c3 : ∀ x : Later w3, x.w.cell? ⟨b, 3, none⟩ = some (.int .i64 m) := fun x => x.cell hs3.c3
  have Hs3 : Hid (∀ x : Later w3, StoAt x.w b L m lb db mb lc dc) := hid fun x => hs3.later x.below
  clear hfull hs3
  refine wp_region_calm (by kernel_rfl) (by kernel_rfl) ?_
  repeat (go_big_quiet_step ((go_at_call 18; exact Calls.calm_same (len_calls' (Hs3.out _)))))
  refine wpQuiet_nil ?_
  intro w4 hw4
  obtain ⟨⟨w4, hb4⟩, rfl⟩ := hw4
  clear c3
  go_wp2_with fail
  go_ret2
  exact ⟨rfl, hbw3.trans (hb4.mono hbw3.size)⟩

def patch (f : Nat → Value) : Nat → List Value → List Value
  | _, [] => []
  | i, v :: l => (if 56 ≤ i ∧ i ≤ 76 then f i else v) :: patch f (i + 1) l

theorem patch_get (f : Nat → Value) : ∀ (l : List Value) (i j : Nat), (patch f i l)[j]? = (l[j]?).map fun v => if 56 ≤ i + j ∧ i + j ≤ 76 then f (i + j) else v
  | [], i, j => by simp [patch]
  | v :: l, i, 0 => by simp [patch]
  | v :: l, i, j + 1 => by
    simp only [patch, List.getElem?_cons_succ, patch_get f l (i + 1) j]
    rw [show i + 1 + j = i + (j + 1) from by omega]

theorem act_lit {a a0 : Act} (hs : a.tmps.size = a0.tmps.size) (hd : a.defers = a0.defers) (hr : ∀ t : Nat, (t < 56 ∨ 76 < t) → a.eval (.tmp t) = a0.eval (.tmp t)) :
    a = { tmps := (patch (fun i => a.eval (.tmp i)) 0 a0.tmps.toList).toArray, defers := a0.defers } := by
  obtain ⟨t, d⟩ := a
  obtain ⟨t0, d0⟩ := a0
  dsimp only at hs hd
  subst hd
  congr 1
  apply Array.ext_getElem?
  intro i
  simp only [List.getElem?_toArray, patch_get, Nat.zero_add, Array.getElem?_toList]
  by_cases h : i < t.size
  · have h3 : i < t0.size := by omega
    simp only [Array.getElem?_eq_getElem h, Array.getElem?_eq_getElem h3, Option.map_some, Option.some.injEq]
    split
    · simp [Act.eval, h]
    · have := hr i (by omega)
      simpa [Act.eval, h, h3] using this
  · have h3 : ¬ i < t0.size := by omega
    simp [h, h3]

theorem deepest_le {ds : List Int} {n : Int} (h0 : 0 ≤ n) (h : ∀ x ∈ ds, 0 ≤ x ∧ x ≤ n) (ps : List Int) : 0 ≤ deepest ds ps ∧ deepest ds ps ≤ n := by
  have key : ∀ (ps : List Int) (m : Int), 0 ≤ m → m ≤ n → 0 ≤ ps.foldl (fun m p => max m (ds.getD p.toNat 0)) m ∧ ps.foldl (fun m p => max m (ds.getD p.toNat 0)) m ≤ n := by
    intro ps
    induction ps with
    | nil => intro m h1 h2; exact ⟨h1, h2⟩
    | cons p ps ih =>
      intro m h1 h2
      have hd : 0 ≤ ds.getD p.toNat 0 ∧ ds.getD p.toNat 0 ≤ n := by
        by_cases hp : p.toNat < ds.length
        · rw [show ds.getD p.toNat 0 = ds[p.toNat] from by simp [List.getD, List.getElem?_eq_getElem hp]]
          exact h _ (List.getElem_mem hp)
        · rw [show ds.getD p.toNat 0 = 0 from by simp [List.getD, List.getElem?_eq_none (Nat.le_of_not_lt hp)]]
          exact ⟨Int.le_refl _, h0⟩
      exact ih _ (by dsimp only; rw [Int.max_def]; split <;> omega) (by dsimp only; rw [Int.max_def]; split <;> omega)
  exact key ps 0 (Int.le_refl _) h0

theorem depths_range (L : List T) : ∀ x ∈ depths L, 0 ≤ x ∧ x ≤ (L.length : Int) := by
  have key : ∀ (n : Nat) (L : List T), L.length = n → ∀ x ∈ depths L, 0 ≤ x ∧ x ≤ (L.length : Int) := by
    intro n
    induction n with
    | zero =>
      intro L hL x hx
      obtain rfl := List.eq_nil_of_length_eq_zero hL
      simp [depths] at hx
      subst hx; simp
    | succ n ih =>
      intro L hL x hx
      obtain ⟨M, t, rfl⟩ : ∃ M t, L = M ++ [t] := ⟨L.dropLast, L.getLast (by intro e; simp [e] at hL), (List.dropLast_concat_getLast _).symm⟩
      have hM : M.length = n := by simp at hL; exact hL
      have ihM := ih M hM
      rw [depths_snoc, List.mem_append, List.mem_singleton] at hx
      simp only [List.length_append, List.length_cons, List.length_nil]
      rcases hx with hx | hx
      · have := ihM x hx; omega
      · have := deepest_le (by omega) ihM t.parts
        omega
  exact key _ L rfl

theorem deepest_range {L : List T} (ps : List Int) : 0 ≤ deepest (depths L) ps ∧ deepest (depths L) ps ≤ L.length := deepest_le (by omega) (depths_range L) ps

/-- What a put of a new term leaves. -/
def PutPost (b : Nat) (L : List T) (m : Int) (t : T) (f : Frag) (w w' : World) : Prop :=
  ∃ g : Frag, Sto b (L ++ [t]) m g ∧ FragIn g w' ∧ (∀ k, g k ≠ none → f k ≠ none ∨ w.heap.size ≤ k) ∧ w'.os = w.os ∧ w'.tape = w.tape ∧ w'.output = w.output ∧ w.heap.size ≤ w'.heap.size ∧ (∀ k, k < w.heap.size → f k = none → w'.heap[k]? = w.heap[k]?)

theorem put_end {b lb db mb lc dc ck : Nat} {lcur dcur : Array Value} {es : Array MapEntry} {L : List T} {m : Int} {t : T} {w w5 X : World} {g1 k1 g2 k2 : Nat} {dd : Int} (hf : FragIn (stoFrag b lb db mb lc dc ck lcur dcur es (L.length + 1) m) w) (hok : StoOk b lb db mb lc dc lcur dcur es L m)
    (hb : Below w.heap.size w w5) (hX : PW w5 b lb db mb m (.slice (some ⟨g1, 0, none⟩) (L.length + 1 + 1) k1) (.slice (some ⟨g2, 0, none⟩) (L.length + 1 + 1) k2) (.slice (some ⟨g1, 0, none⟩) (L.length + 1 + 1) k1) (L.length + 1 + 1) (cellsOf (zeroT :: L) ++ T.cells t)
      (.slice (some ⟨g2, 0, none⟩) (L.length + 1 + 1) k2) (L.length + 1 + 1) (ints (depths L) ++ [.int .i64 (dd + 1)]) X) (hm : t.may L.length) (hi : find t L = none) (hlt : (L.length : Int) < m) (hd : deepest (depths L) t.parts = dd) :
    PutPost b L m t (stoFrag b lb db mb lc dc ck lcur dcur es (L.length + 1) m) w (setMap X.drew mb (.map (es.push { key := T.val t, val := .int .i64 ((L.length : Int) + 1), born := ck }) (ck + 1))) := by
  obtain ⟨p1, p2, p3, p4, p5, p6⟩ := hok.apart
  have hmb : mb < w.heap.size := (Array.getElem?_eq_some_iff.1 (hf mb (.map es ck) (by simp [stoFrag, Ne.symm p3, Ne.symm p5, Ne.symm p6]))).1
  have hs5 := hb.size
  have hsX := hX.size
  obtain ⟨q1, q2⟩ := hX.bl g1 rfl
  obtain ⟨r1, r2⟩ := hX.bd g2 rfl
  have s1 : g1 ≠ g2 := fun e => hX.ld g1 rfl (by rw [e]; rfl)
  have hg1 : g1 ≠ mb := by rcases q2 with e | e <;> omega
  have hg2 : g2 ≠ mb := by rcases r2 with e | e <;> omega
  obtain ⟨ol1, ol2⟩ := hX.ol
  obtain ⟨od1, od2⟩ := hX.od
  rcases ol2 with ⟨h, _⟩ | ⟨g1', k1', lcur', hv1, _, hl2, hl3, hl4, hl5, hl6⟩
  · cases h
  rcases od2 with ⟨h, _⟩ | ⟨g2', k2', dcur', hv2, _, hd2, hd3, hd4, hd5, hd6⟩
  · cases h
  obtain ⟨rfl, rfl⟩ : g1' = g1 ∧ k1' = k1 := by simp at hv1; exact ⟨hv1.1.symm, hv1.2.symm⟩
  obtain ⟨rfl, rfl⟩ : g2' = g2 ∧ k2' = k2 := by simp at hv2; exact ⟨hv2.1.symm, hv2.2.symm⟩
  have hne : ∀ (o : Obj) (k : Nat), k ≠ mb → (setMap X.drew mb o).heap[k]? = X.heap[k]? := fun o k hk => by
    simp only [setMap, heap_drew, Array.getElem?_setIfInBounds_ne (Ne.symm hk)]
  have hat : ∀ (o : Obj), (setMap X.drew mb o).heap[mb]? = some o := fun o => by
    simp only [setMap, heap_drew]
    exact Array.getElem?_setIfInBounds_self_of_lt (by omega)
  have hsz : ∀ (o : Obj), (setMap X.drew mb o).heap.size = X.heap.size := fun o => by simp [setMap, heap_drew]
  refine ⟨stoFrag b g1' g2' mb k1' k2' (ck + 1) lcur' dcur' (es.push { key := T.val t, val := .int .i64 ((L.length : Int) + 1), born := ck }) (L.length + 1 + 1) m,
    ⟨g1', g2', mb, k1', k2', ck + 1, lcur', dcur', es.push { key := T.val t, val := .int .i64 ((L.length : Int) + 1), born := ck }, by simp, ?_⟩, stoFrag_in ?_ ?_ ?_ (hat _), fun k hk => ?_, hX.os.trans hb.os, hX.tape.trans hb.tape, hX.output.trans hb.output, by rw [hsz]; omega, fun k hk hfk => ?_⟩
  · refine ⟨hok.good.snoc hm (find_none.1 hi), hok.m0, hok.m1, by simp; omega, ⟨Ne.symm q1, Ne.symm r1, p3, s1, hg1, hg2⟩, hl5, by simpa using hl3, hl4, ?_, by simpa using hd5, by simpa using hd3, hd4, ?_, names_push hok.names⟩
    · rw [show (L ++ [t]).length + 1 = L.length + 1 + 1 from by simp, hl6]
      simp [cellsOf]
    · rw [show (L ++ [t]).length + 1 = L.length + 1 + 1 from by simp]
      have : dcur'.toList.take (L.length + 1 + 1) = ints (depths L) ++ [.int .i64 (dd + 1)] := by simpa using hd6
      rw [this, depths_snoc, hd]
      simp [ints]
  · rw [hne _ _ p3]; exact hX.hdr
  · rw [hne _ _ hg1]; exact hl2
  · rw [hne _ _ hg2]; exact hd2
  · rcases stoFrag_at hk with rfl | rfl | rfl | rfl
    · left; simp [stoFrag]
    · rcases q2 with rfl | e
      · left; simp [stoFrag, Ne.symm p1]
      · right; omega
    · rcases r2 with rfl | e
      · left; simp [stoFrag, Ne.symm p2, Ne.symm p4]
      · right; omega
    · left; simp [stoFrag, Ne.symm p3, Ne.symm p5, Ne.symm p6]
  · have hk1 : k ≠ b := fun e => by subst e; simp [stoFrag] at hfk
    have hk2 : k ≠ lb := fun e => by subst e; simp [stoFrag, Ne.symm p1] at hfk
    have hk3 : k ≠ db := fun e => by subst e; simp [stoFrag, Ne.symm p2, Ne.symm p4] at hfk
    have hk4 : k ≠ mb := fun e => by subst e; simp [stoFrag, Ne.symm p3, Ne.symm p5, Ne.symm p6] at hfk
    rw [hne _ _ hk4, hX.old k (by omega) hk1 hk2 hk3, hb.block k hk]

set_option maxRecDepth 100000 in
set_option maxHeartbeats 2000000 in
theorem put_new {b : Nat} {L : List T} {m : Int} {lb db mb lc dc ck : Nat} {lcur dcur : Array Value} {es : Array MapEntry} (k : Int) (s : ByteArray) (n a b' c : Int) {w : World} (hfr : FragIn (stoFrag b lb db mb lc dc ck lcur dcur es (L.length + 1) m) w)
    (hok : StoOk b lb db mb lc dc lcur dcur es L m)
    (hm : T.may L.length ⟨k, s, n, a, b', c⟩) (hi : find ⟨k, s, n, a, b', c⟩ L = none) (hfull : L.length < m) :
    Calls Try.prog 24 #[.pointer (some ⟨b, 0, none⟩), T.val ⟨k, s, n, a, b', c⟩] w fun e w' => e = .returned (.tuple #[.int .i64 (L.length + 1), .int .i64 0]) ∧ PutPost b L m ⟨k, s, n, a, b', c⟩ (stoFrag b lb db mb lc dc ck lcur dcur es (L.length + 1) m) w w' := by
  have h := stoAt_of hfr hok
  have hs1lt : b < w.heap.size ∧ lb < w.heap.size ∧ db < w.heap.size := ⟨h.lt, h.llt, h.dlt⟩
  have Hfr := hid hfr
  have Hok := hid hok
  clear hfr hok
  have Hq : Hid (∀ w', StoAt w' b L m lb db mb lc dc → Calls Try.prog 57 #[.pointer (some ⟨b, 0, none⟩), .agg #[.int .i64 k, .string s, .int .u64 n, .int .i64 a, .int .i64 b', .int .i64 c]] w' fun e w'' =>
      e = .returned (.bool true) ∧ Below w'.heap.size w' w'') := hid fun w' h' => by
    have hq := may_calls k s n a b' c h'
    rw [decide_eq_true hm] at hq
    exact hq
  have Hk : Hid (∀ w', StoAt w' b L m lb db mb lc dc → ∀ w'', w''.heap[mb]? = w'.heap[mb]? → (Instr.lookup 116 (.map (some mb)) (.agg #[.int .i64 k, .string s, .int .u64 n, .int .i64 a, .int .i64 b', .int .i64 c]) true).run Try.prog w'' =
      .ok (.tuple #[.int .i64 0, .bool false]) w'') := hid fun w' h' w'' hw => by
    obtain ⟨es, ck, h1, h2⟩ := h'.hm
    have := lookup_T ⟨k, s, n, a, b', c⟩ w'' (hw.trans h1) h2
    rw [hi] at this
    exact this
  have Hs : Hid (∀ o, StoAt (w.alloc o) b L m lb db mb lc dc) := hid fun o => h.later ((Below.refl _ _).alloc (Nat.le_refl _) _)
  have Hm := hid hm
  have hfull' := hfull
  have hlen' := h.len
  have hmlt := h.mlt
  have Hi := hid hi
  have hm1' := h.m1
  clear h hm hi
  simp only [T.val]
  go_enter Try.func24, Try.ntmps24
  go_wp2_with fail
  refine (Hq.out _ (Hs.out _)).mono ?_
  rintro e w1 ⟨rfl, hb1⟩
  have hs1 := (Hs.out _).later hb1
  have hbox : w1.heap[w.heap.size]? = some (.cells #[.int .i64 k, .string s, .int .u64 n, .int .i64 a, .int .i64 b', .int .i64 c] 47) := by rw [hb1.block _ (by simp)]; exact heap_at rfl
  have hbw : Below w.heap.size w w1 := ((Below.refl _ _).alloc (Nat.le_refl _) _).trans (hb1.mono (by simp <;> omega))
  clear hb1
  go_wp2_with fail
  have c2 : ∀ x : Later w1, x.w.cell? ⟨b, 2, none⟩ = some (.map (some mb)) := fun x => x.cell hs1.c2
  have d0 : ∀ x : Later w1, x.w.cell? ⟨w.heap.size, 0, none⟩ = some (.int .i64 k) := fun x => x.cell (by rw [cell_of_heap hbox]; rfl)
  have d1 : ∀ x : Later w1, x.w.cell? ⟨w.heap.size, 1, none⟩ = some (.string s) := fun x => x.cell (by rw [cell_of_heap hbox]; rfl)
  have d2 : ∀ x : Later w1, x.w.cell? ⟨w.heap.size, 2, none⟩ = some (.int .u64 n) := fun x => x.cell (by rw [cell_of_heap hbox]; rfl)
  have d3 : ∀ x : Later w1, x.w.cell? ⟨w.heap.size, 3, none⟩ = some (.int .i64 a) := fun x => x.cell (by rw [cell_of_heap hbox]; rfl)
  have d4 : ∀ x : Later w1, x.w.cell? ⟨w.heap.size, 4, none⟩ = some (.int .i64 b') := fun x => x.cell (by rw [cell_of_heap hbox]; rfl)
  have d5 : ∀ x : Later w1, x.w.cell? ⟨w.heap.size, 5, none⟩ = some (.int .i64 c) := fun x => x.cell (by rw [cell_of_heap hbox]; rfl)
  have hlk : ∀ x : Later w1, (Instr.lookup 116 (.map (some mb)) (.agg #[.int .i64 k, .string s, .int .u64 n, .int .i64 a, .int .i64 b', .int .i64 c]) true).run Try.prog x.w = .ok (.tuple #[.int .i64 0, .bool false]) x.w :=
    fun x => Hk.out _ hs1 _ (x.below.block _ hs1.mlt)
  have hBlt : w.heap.size < w1.heap.size := (Array.getElem?_eq_some_iff.1 hbox).1
  have Hbox := hid hbox
  clear hbox
  refine wp_region_calm (by kernel_rfl) (by kernel_rfl) ?_
  repeat (go_big_quiet_step (fail))
  refine wpQuiet_nil ?_
  intro w3 hw3
  obtain ⟨⟨w3, hb3⟩, rfl⟩ := hw3
  clear c2 d0 d1 d2 d3 d4 d5 hlk
  go_wp2_with fail
  have hs3 := hs1.later hb3
  have hbw3 := hbw.trans (hb3.mono hbw.size)
  have hd : decide (m ≤ (L.length : Int)) = false := by simp; omega
  have c3 : ∀ x : Later w3, x.w.cell? ⟨b, 3, none⟩ = some (.int .i64 m) := fun x => x.cell hs3.c3
  have Hs3 : Hid (∀ x : Later w3, StoAt x.w b L m lb db mb lc dc) := hid fun x => hs3.later x.below
  clear hfull hs3
  refine wp_region_calm (by kernel_rfl) (by kernel_rfl) ?_
  repeat (go_big_quiet_step ((go_at_call 18; exact Calls.calm_same (len_calls' (Hs3.out _)))))
  refine wpQuiet_nil ?_
  intro w4 hw4
  obtain ⟨⟨w4, hb4⟩, rfl⟩ := hw4
  clear c3
  have hs4 := Hs3.out ⟨w4, hb4⟩
  have hbw4 := hbw3.trans (hb4.mono hbw3.size)
  have hbox4 : w4.heap[w.heap.size]? = some (.cells #[.int .i64 k, .string s, .int .u64 n, .int .i64 a, .int .i64 b', .int .i64 c] 47) := by
    rw [hb4.block _ (by have := hb3.size; omega), hb3.block _ hBlt]; exact Hbox.out
  have e0 : w4.cell? ⟨w.heap.size, 0, none⟩ = some (.int .i64 k) := by rw [cell_of_heap hbox4]; rfl
  have e1 : w4.cell? ⟨w.heap.size, 1, none⟩ = some (.string s) := by rw [cell_of_heap hbox4]; rfl
  have e2 : w4.cell? ⟨w.heap.size, 2, none⟩ = some (.int .u64 n) := by rw [cell_of_heap hbox4]; rfl
  have e3 : w4.cell? ⟨w.heap.size, 3, none⟩ = some (.int .i64 a) := by rw [cell_of_heap hbox4]; rfl
  have e4 : w4.cell? ⟨w.heap.size, 4, none⟩ = some (.int .i64 b') := by rw [cell_of_heap hbox4]; rfl
  have e5 : w4.cell? ⟨w.heap.size, 5, none⟩ = some (.int .i64 c) := by rw [cell_of_heap hbox4]; rfl
  clear hs1 Hs3
  go_wp2_with fail
  refine (parts_calls k s n a b' c _).mono ?_
  rintro e w5 ⟨ad, rfl, hb5, hl⟩
  have hs5 := hs4.later hb5
  have hbw5 := hbw4.trans (hb5.mono hbw4.size)
  have hbox5 : w5.heap[w.heap.size]? = some (.cells #[.int .i64 k, .string s, .int .u64 n, .int .i64 a, .int .i64 b', .int .i64 c] 47) := by rw [hb5.block _ (by have := (Array.getElem?_eq_some_iff.1 hbox4).1; omega)]; exact hbox4
  clear e0 e1 e2 e3 e4 e5 hbox4 hs4
  have hpl : (T.parts ⟨k, s, n, a, b', c⟩).length = many k := parts_length _
  have hpi : ∀ j, j < many k → 1 ≤ (T.parts ⟨k, s, n, a, b', c⟩).getD j 0 ∧ (T.parts ⟨k, s, n, a, b', c⟩).getD j 0 ≤ L.length := fun j hj => by
    refine Hm.out.2.2.2.2.2 _ ?_
    rw [← hpl] at hj
    rw [show (T.parts ⟨k, s, n, a, b', c⟩).getD j 0 = (T.parts ⟨k, s, n, a, b', c⟩)[j] from by simp [List.getD, List.getElem?_eq_getElem hj]]
    exact List.getElem_mem hj
  go_wp2_with fail
  have hm3 := many_le k
  generalize hps : T.parts ⟨k, s, n, a, b', c⟩ = ps at *
  have Hpl := hid hpl
  have Hpi := hid hpi
  have Hps := hid hps
  clear hpl hpi hps
  generalize many k = q at *
  have c1 := hs5.c1
  have c0 := hs5.c0
  go_loop [8, 37] (fun d i => ∃ j : Nat, j ≤ q ∧ i = .int .i64 j ∧ d = .int .i64 (deepest (depths L) (ps.take j))) (fun _ i => q - (intOf i).toNat)
  case atStart => exact ⟨0, Nat.zero_le _, rfl, by simp [deepest]⟩
  case round =>
    obtain ⟨j, hj, rfl, rfl⟩ := hrel
    by_cases hlt : j < q
    · have hlen : j < ps.length := by rw [Hpl.out]; exact hlt
      obtain ⟨g, rfl, hc⟩ : ∃ g, ad = some ⟨g, 0, none⟩ ∧ w5.cell? ⟨g, j, none⟩ = some (.int .i64 (ps.getD j 0)) := by
        rcases hl with ⟨h, _⟩ | ⟨g, h1, _, h2⟩
        · rw [h] at hlen; simp at hlen
        · exact ⟨g, h1, ints_cell h2 hlen⟩
      have hpj := Hpi.out j hlt
      have hcd : w5.cell? ⟨db, (ps.getD j 0).toNat, none⟩ = some (.int .i64 ((depths L).getD (ps.getD j 0).toNat 0)) := hs5.cd _ (by omega)
      have Hst : Hid (deepest (depths L) (ps.take (j + 1)) = max (deepest (depths L) (ps.take j)) ((depths L).getD (ps.getD j 0).toNat 0)) := hid (by
        rw [List.take_succ_eq_append_getElem hlen]
        simp only [deepest, List.foldl_append, List.foldl_cons, List.foldl_nil]
        rw [show ps.getD j 0 = ps[j] from by simp [List.getD, List.getElem?_eq_getElem hlen]])
      clear hl
      generalize ps.getD j 0 = p at *
      generalize (depths L).getD p.toNat 0 = dp at *
      have hj64 : (j : Int) ≤ 3 := by omega
      go_wp2_with fail
      go_round
      case rel => exact ⟨j + 1, by omega, by go_num, by rw [Hst.out, Int.max_def]; congr 1; split <;> split <;> omega⟩
      case measure => simp [intOf]; omega
    · obtain rfl : j = q := by omega
      have Htk : Hid (ps.take j = ps) := hid (List.take_of_length_le (by rw [Hpl.out]; omega))
      rw [Htk.out]
      clear hj hlt hl
      go_wp2_with fail
      have hP0 : PW w5 b lb db mb m (.slice (some ⟨lb, 0, none⟩) (L.length + 1) lc) (.slice (some ⟨db, 0, none⟩) (L.length + 1) dc) (.slice (some ⟨lb, 0, none⟩) (L.length + 1) lc) (L.length + 1) (cellsOf (zeroT :: L))
          (.slice (some ⟨db, 0, none⟩) (L.length + 1) dc) (L.length + 1) (ints (depths L)) w5 := pw_start (fragIn_later Hfr.out hbw5) Hok.out
      have hB5 : w.heap.size < w5.heap.size := (Array.getElem?_eq_some_iff.1 hbox5).1
      have hdd := deepest_range (L := L) ps
      generalize hddd : deepest (depths L) ps = dd at *
      have Hdd := hid hddd
      clear hddd
      have hL : L.length ≤ 1048576 := by omega
      have hBn : w.heap.size ≠ b ∧ w.heap.size ≠ lb ∧ w.heap.size ≠ db := ⟨by have := Hok.out; have := hs1lt.1; omega, by have := hs1lt.2.1; omega, by have := hs1lt.2.2; omega⟩
      refine region15 (t := ⟨k, s, n, a, b', c⟩) (by kernel_rfl) (by kernel_rfl) (by simp) rfl rfl rfl hP0 hbox5 hBn (by omega) (by omega) (by omega) (by omega) ?_
      intro a' X g1 k1 g2 k2 z1 z2 z3 hX
      rw [act_lit z1 z2 z3]
      clear z1 z2 z3
      simp only [patch, Nat.reduceAdd, Nat.reduceLeDiff, and_self, and_true, and_false, if_true, if_false]
      generalize a'.eval (.tmp 56) = y56; generalize a'.eval (.tmp 57) = y57; generalize a'.eval (.tmp 58) = y58; generalize a'.eval (.tmp 59) = y59; generalize a'.eval (.tmp 60) = y60; generalize a'.eval (.tmp 61) = y61; generalize a'.eval (.tmp 62) = y62
      generalize a'.eval (.tmp 63) = y63; generalize a'.eval (.tmp 64) = y64; generalize a'.eval (.tmp 65) = y65; generalize a'.eval (.tmp 66) = y66; generalize a'.eval (.tmp 67) = y67; generalize a'.eval (.tmp 68) = y68; generalize a'.eval (.tmp 69) = y69
      generalize a'.eval (.tmp 70) = y70; generalize a'.eval (.tmp 71) = y71; generalize a'.eval (.tmp 72) = y72; generalize a'.eval (.tmp 73) = y73; generalize a'.eval (.tmp 74) = y74; generalize a'.eval (.tmp 75) = y75; generalize a'.eval (.tmp 76) = y76
      have hboxX : X.heap[w.heap.size]? = some (.cells (T.cells ⟨k, s, n, a, b', c⟩).toArray 47 (0, 0)) := (hX.old _ hB5 hBn.1 hBn.2.1 hBn.2.2).trans hbox5
      have hmX : X.heap[mb]? = some (.map es ck) := by
        obtain ⟨p1, p2, p3, p4, p5, p6⟩ := Hok.out.apart
        rw [hX.old mb (by have := hbw5.size; omega) (Ne.symm p3) (Ne.symm p5) (Ne.symm p6), hbw5.block mb hmlt]
        exact Hfr.out mb _ (by simp [stoFrag, Ne.symm p3, Ne.symm p5, Ne.symm p6])
      have hmu := mapUpdate_T ⟨k, s, n, a, b', c⟩ ((L.length : Int) + 1) X.drew hmX Hok.out.names Hi.out
      have q0 : X.cell? ⟨w.heap.size, 0, none⟩ = some (.int .i64 k) := by rw [cell_of_heap hboxX]; rfl
      have q1 : X.cell? ⟨w.heap.size, 1, none⟩ = some (.string s) := by rw [cell_of_heap hboxX]; rfl
      have q2 : X.cell? ⟨w.heap.size, 2, none⟩ = some (.int .u64 n) := by rw [cell_of_heap hboxX]; rfl
      have q3 : X.cell? ⟨w.heap.size, 3, none⟩ = some (.int .i64 a) := by rw [cell_of_heap hboxX]; rfl
      have q4 : X.cell? ⟨w.heap.size, 4, none⟩ = some (.int .i64 b') := by rw [cell_of_heap hboxX]; rfl
      have q5 : X.cell? ⟨w.heap.size, 5, none⟩ = some (.int .i64 c) := by rw [cell_of_heap hboxX]; rfl
      have qm : X.cell? ⟨b, 2, none⟩ = some (.map (some mb)) := by rw [cell_of_heap hX.hdr]; rfl
      simp only [T.val] at hmu
      have HX := hid hX
      clear hX hboxX hmX hP0 hbox5
      go_wp2_with fail
      go_still_tail 6, (by kernel_rfl)
      change wpList _ _ _ _ _ X.drew
      go_wp2_with fail
      go_ret2
      refine ⟨rfl, ?_⟩
      have hfin := put_end (t := ⟨k, s, n, a, b', c⟩) Hfr.out Hok.out hbw5 HX.out Hm.out Hi.out hfull' (by rw [Hps.out]; exact Hdd.out)
      exact hfin

/-- PUT: what it answers, and what the store then is. -/
theorem put_calls {W w : World} {Rs : List Res} {b : Nat} {L : List T} {m : Int} (k : Int) (s : ByteArray) (n a b' c : Int) (h : Hd W w (Sto b L m :: Rs)) :
    Calls Try.prog 24 #[.pointer (some ⟨b, 0, none⟩), T.val ⟨k, s, n, a, b', c⟩] w fun e w' =>
      e = .returned (.tuple #[.int .i64 (put m L ⟨k, s, n, a, b', c⟩).1, .int .i64 (put m L ⟨k, s, n, a, b', c⟩).2.1]) ∧ Hd W w' (Sto b (put m L ⟨k, s, n, a, b', c⟩).2.2 m :: Rs) := by
  obtain ⟨lb, db, mb, lc, dc, hat⟩ := h.sto
  by_cases hm : T.may L.length ⟨k, s, n, a, b', c⟩
  case neg =>
    have e : put m L ⟨k, s, n, a, b', c⟩ = (0, 1, L) := by unfold put; rw [if_neg hm]
    rw [e]
    exact (put_no k s n a b' c hat hm).mono fun _ _ ⟨h1, h2⟩ => ⟨h1, h.still h2⟩
  cases hi : find ⟨k, s, n, a, b', c⟩ L with
  | some i =>
    have e : put m L ⟨k, s, n, a, b', c⟩ = ((i : Int) + 1, 0, L) := by unfold put; rw [if_pos hm, hi]
    rw [e]
    exact (put_is k s n a b' c hat hm hi).mono fun _ _ ⟨h1, h2⟩ => ⟨h1, h.still h2⟩
  | none =>
    by_cases hfull : m ≤ L.length
    · have e : put m L ⟨k, s, n, a, b', c⟩ = (0, 4, L) := by unfold put; rw [if_pos hm, hi]; simp [hfull]
      rw [e]
      exact (put_full k s n a b' c hat hm hi hfull).mono fun _ _ ⟨h1, h2⟩ => ⟨h1, h.still h2⟩
    · have e : put m L ⟨k, s, n, a, b', c⟩ = ((L.length : Int) + 1, 0, L ++ [⟨k, s, n, a, b', c⟩]) := by unfold put; rw [if_pos hm, hi]; simp [hfull]
      rw [e]
      obtain ⟨f, ⟨lb, db, mb, lc, dc, ck, lcur, dcur, es, rfl, hok⟩, hf, _, hclose⟩ := h.open
      refine (put_new k s n a b' c hf hok hm hi (by omega)).mono fun _ w' ⟨h1, g, hg, hgi, hgn, g1, g2, g3, g4, g5⟩ => ⟨h1, ?_⟩
      exact hclose w' _ g hg hgi hgn g1 g2 g3 g4 g5
end Go.Proofs.Ytpcfmafokkffgaa
