/-
  Walks through what the statements share: fixed of layer 16. It takes nothing.
-/
import Derived.Test.YtbaliaodioflfaaSkipQ
import Derived.Test.YtbaliaodioflfaaSkipK
import Derived.Test.YtbaliaodioflfaaRel
namespace Go.Proofs.Ytbaliaodioflfaa
open Go.RowKit

theorem Hd.nthk {W w : World} {k : Nat} {o : Obj} : ∀ (i : Nat) {Rs : List Res}, Hd W w Rs → Rs[i]? = some (Blk k o) → w.heap[k]? = some o
  | 0, A :: Rs, h, e => by
    simp only [List.getElem?_cons_zero, Option.some.injEq] at e
    subst e
    exact h.blk
  | i + 1, A :: Rs, h, e => Hd.nthk i h.drop (by simpa using e)
  | _, [], _, e => by simp at e
theorem Hd.front {W w : World} {Rs : List Res} {R : Res} (i : Nat) (h : Hd W w Rs) (e : Rs[i]? = some R) : Hd W w (R :: Rs.eraseIdx i) := by
  have key : ∀ (l : List Res) (i : Nat), l[i]? = some R → l.Perm (R :: l.eraseIdx i) := by
    intro l
    induction l with
    | nil => intro i h; simp at h
    | cons x l ih =>
      intro i h
      cases i with
      | zero =>
        simp only [List.getElem?_cons_zero, Option.some.injEq] at h
        subst h
        exact List.Perm.refl _
      | succ i => exact ((ih i (by simpa using h)).cons x).trans (List.Perm.swap _ _ _)
  exact Hd.perm (key Rs i e) h
theorem ints_lit {w : World} (ks : List Int) {cs : Array Value} (hc : cs = (ints ks).toArray) : IntsAt (w.alloc (.cells cs 3 (0, 0))) (some ⟨w.heap.size, 0, none⟩) ks :=
  .inr ⟨w.heap.size, 0, rfl, fun j hj => by subst hc; rw [Nat.zero_add]; exact ints_cell (heap_at rfl) hj⟩
theorem rises_of {es : List En} (h : (es.map (·.ep)).Pairwise (· < ·)) : Rises es := by rwa [List.pairwise_map] at h

/-- A cache, or a list of the document's, in a block of its own. -/
def CaR (v : Value) (es : List En) : Res := fun f =>
  (v = .slice none 0 0 ∧ es = [] ∧ f = fun _ => none) ∨
  ∃ g o cap cur E, v = .slice (some ⟨g, o, none⟩) es.length cap ∧ (∀ (i : Nat) (e : En), es[i]? = some e → ∀ (j : Nat) (u : Value), e.cells[j]? = some u → (cur : Array Value)[o + i * 4 + j]? = some u) ∧ f = fun k => if k = g then some (.cells cur E (0, 0)) else none

section
variable {W w w' : World} {Rs : List Res} {es es' : List En} {v : Value} {ga gk gx gy : Int} {b : Bool}
theorem Hd.ca (h : Hd W w (CaR v es :: Rs)) : CaAt w v es := by
  obtain ⟨f, hR, hf, _⟩ := h.open
  rcases hR with ⟨rfl, rfl, _⟩ | ⟨g, o, cap, cur, E, rfl, hc, rfl⟩
  · exact CaAt.nil
  · refine ⟨_, cap, rfl, fun i e hi => ⟨g, o, rfl, fun j u hj => ?_⟩, fun h => (by cases h)⟩
    rw [cell_of_heap (hf g (.cells cur E (0, 0)) (by simp))]
    exact hc i e hi j u hj
theorem Hd.la (h : Hd W w (CaR v es :: Rs)) : LaAt w v es := by
  obtain ⟨ad, cap, e, h1, h2⟩ := h.ca.ex
  exact ⟨ad, cap, e, h1, h2⟩
theorem Hd.ca_form (h : Hd W w (CaR v es :: Rs)) : ∃ ad cap, v = .slice ad es.length cap := by
  obtain ⟨ad, cap, e, h1, _⟩ := h.ca.ex
  exact ⟨ad, cap, e⟩
theorem Hd.addCa {ad : Option Addr} {cap : Nat} (h : Hd W w Rs) (hb : Below w.heap.size w w') (hc : EnAt w' ad es) (h0 : ad = none → cap = 0 ∧ es = []) (hn : NewSl w w' (.slice ad es.length cap)) : Hd W w' (CaR (.slice ad es.length cap) es :: Rs) := by
  cases ad with
  | none =>
    obtain ⟨rfl, rfl⟩ := h0 rfl
    exact h.add hb (fun _ => none) (.inl ⟨rfl, rfl, rfl⟩) (fun k o hk => by cases hk) (fun k hk => absurd rfl hk)
  | some a =>
    obtain ⟨ad2, n2, c2, e, h1⟩ := hn
    cases e
    obtain ⟨g, o, cur, E, rfl, hg, hcur⟩ := h1 _ rfl
    refine h.add hb (fun k => if k = g then some (.cells cur E (0, 0)) else none) (.inr ⟨g, o, cap, cur, E, rfl, fun i e hi j u hj => ?_, rfl⟩) (fun k o hk => ?_) (fun k hk => ?_)
    · obtain ⟨g2, o2, ha, hcl⟩ := hc i e hi
      cases ha
      have := hcl j u hj
      rwa [cell_of_heap hcur] at this
    · dsimp only at hk
      split at hk
      · rename_i e1; subst e1; rw [hcur]; exact hk
      · cases hk
    · split at hk
      · rename_i e1; subst e1; exact hg
      · exact absurd rfl hk
theorem Hd.addCaAt (h : Hd W w Rs) (hb : Below w.heap.size w w') (hc : CaAt w' v es) (hn : NewSl w w' v) : ∃ ad cap, v = .slice ad es.length cap ∧ Hd W w' (CaR (.slice ad es.length cap) es :: Rs) := by
  obtain ⟨ad, cap, rfl, h1, h0⟩ := hc.ex
  exact ⟨ad, cap, rfl, h.addCa hb h1 h0 hn⟩
theorem Hd.addCaNil (h : Hd W w Rs) : Hd W w (CaR (.slice none 0 0) [] :: Rs) := h.add (Below.refl _ _) (fun _ => none) (.inl ⟨rfl, rfl, rfl⟩) (fun k o hk => by cases hk) (fun k hk => absurd rfl hk)

theorem put16_is (a k x y : Int) (hk : kPut es ⟨a, k, x, y⟩ = (es', ⟨ga, gk, gx, gy⟩, b)) (hr : Rises es) (hm : es.length ≤ 900) (hc : CaAt w v es) (h : Hd W w Rs) :
    Calls Try.prog 52 #[.agg #[v], .agg #[.int .i64 a, .int .i64 k, .int .u64 x, .int .u64 y]] w fun e' w' => ∃ ad cap, e' = .returned (.tuple #[.agg #[.slice ad es'.length cap], .agg #[.int .i64 ga, .int .i64 gk, .int .u64 gx, .int .u64 gy], .bool b]) ∧ Hd W w' (CaR (.slice ad es'.length cap) es' :: Rs) := by
  refine (put16_calls a k x y hr hc hm).mono ?_
  rw [hk]
  rintro e w' ⟨v', rfl, h1, h2, h3⟩
  obtain ⟨ad, cap, rfl, hd⟩ := h.addCaAt h3 h1 h2
  exact ⟨ad, cap, rfl, hd⟩
theorem drop16_is (n : Int) (hk : kDrop es n = es') (hr : Rises es) (hm : es.length ≤ 900) (hc : CaAt w v es) (h : Hd W w Rs) :
    Calls Try.prog 50 #[.agg #[v], .int .i64 n] w fun e' w' => ∃ ad cap, e' = .returned (.agg #[.slice ad es'.length cap]) ∧ Hd W w' (CaR (.slice ad es'.length cap) es' :: Rs) := by
  refine (drop16_calls n hr hc hm).mono ?_
  rw [hk]
  rintro e w' ⟨v', rfl, h1, h2, h3⟩
  obtain ⟨ad, cap, rfl, hd⟩ := h.addCaAt h3 h1 h2
  exact ⟨ad, cap, rfl, hd⟩
theorem rput16_is (a k x y : Int) (hk : rPut es ⟨a, k, x, y⟩ = (es', ⟨ga, gk, gx, gy⟩, b)) (hr : Rises es) (hm : es.length ≤ 800) (hc : LaAt w v es) (h : Hd W w Rs) :
    Calls Try.prog 53 #[v, .agg #[.int .i64 a, .int .i64 k, .int .u64 x, .int .u64 y]] w fun e' w' => ∃ ad cap, e' = .returned (.tuple #[.slice ad es'.length cap, .agg #[.int .i64 ga, .int .i64 gk, .int .u64 gx, .int .u64 gy], .bool b]) ∧ Hd W w' (CaR (.slice ad es'.length cap) es' :: Rs) := by
  refine (rput16_calls a k x y hr hc hm).mono ?_
  rw [hk]
  rintro e w' ⟨v', rfl, h1, h2, h3⟩
  obtain ⟨ad, cap, rfl, h4, h0⟩ := h1.ex
  exact ⟨ad, cap, rfl, h.addCa h3 h4 h0 h2⟩
theorem rdrop16_is (n : Int) (hk : without es n = es') (hm : es.length ≤ 900) (hc : LaAt w v es) (h : Hd W w Rs) :
    Calls Try.prog 51 #[v, .int .i64 n] w fun e' w' => ∃ ad cap, e' = .returned (.slice ad es'.length cap) ∧ Hd W w' (CaR (.slice ad es'.length cap) es' :: Rs) := by
  obtain ⟨ad, cap, rfl, hat, _⟩ := hc.ex
  refine (rdrop_calls n hat rfl hm).mono ?_
  rw [hk]
  rintro e w' ⟨g, c, rfl, hd⟩
  exact ⟨_, _, rfl, h.addCa hd.below (Hd.row_en rfl hd) (fun e => by cases e) hd.row_newSl⟩
theorem get16_is (n : Int) (hk : kGet es n = (⟨ga, gk, gx, gy⟩, b)) (hr : Rises es) (hm : es.length ≤ 900) (hc : CaAt w v es) (h : Hd W w Rs) :
    Calls Try.prog 55 #[.agg #[v], .int .i64 n] w fun e w' => e = .returned (.tuple #[.agg #[.int .i64 ga, .int .i64 gk, .int .u64 gx, .int .u64 gy], .bool b]) ∧ Hd W w' Rs := by
  refine (get16_calls n hr hc (by omega)).mono ?_
  rw [hk]
  exact fun e w' h' => ⟨h'.1, h.still h'.2⟩
theorem rget16_is (n : Int) (hk : rGet es n = (⟨ga, gk, gx, gy⟩, b)) (hm : es.length ≤ 900) (hc : LaAt w v es) (h : Hd W w Rs) :
    Calls Try.prog 56 #[v, .int .i64 n] w fun e w' => e = .returned (.tuple #[.agg #[.int .i64 ga, .int .i64 gk, .int .u64 gx, .int .u64 gy], .bool b]) ∧ Hd W w' Rs := by
  obtain ⟨ad, cap, rfl, hat, _⟩ := hc.ex
  refine (rget_calls n hat rfl hm).mono ?_
  rw [hk]
  exact fun e w' h' => ⟨h'.1, h.still h'.2⟩
theorem keys16_is (hm : es.length ≤ 900) (hc : CaAt w v es) (h : Hd W w Rs) :
    Calls Try.prog 59 #[.agg #[v]] w fun e w' => ∃ ad cap, e = .returned (.slice ad (kKeys es).length cap) ∧ IntsAt w' ad (kKeys es) ∧ Below w.heap.size w w' ∧ Hd W w' Rs := by
  refine (keys_calls hc hm).mono ?_
  rintro e w' ⟨u, rfl, h1, h2⟩
  obtain ⟨ad, cap, rfl, h3⟩ := h1.ex
  exact ⟨ad, cap, rfl, h3, h2, h.still h2⟩
theorem rkeys16_is (hm : es.length ≤ 900) (hc : LaAt w v es) (h : Hd W w Rs) :
    Calls Try.prog 60 #[v] w fun e w' => ∃ ad cap, e = .returned (.slice ad (kKeys es).length cap) ∧ IntsAt w' ad (kKeys es) ∧ Below w.heap.size w w' ∧ Hd W w' Rs := by
  refine (rkeys_calls hc hm).mono ?_
  rintro e w' ⟨u, rfl, h1, h2⟩
  obtain ⟨ad, cap, rfl, h3⟩ := h1.ex
  exact ⟨ad, cap, rfl, h3, h2, h.still h2⟩
theorem refs16_is (hm : es.length ≤ 900) (hc : CaAt w v es) (h : Hd W w Rs) :
    Calls Try.prog 58 #[.agg #[v]] w fun e w' => ∃ ad cap, e = .returned (.slice ad es.length cap) ∧ EnAt w' ad es ∧ Below w.heap.size w w' ∧ Hd W w' Rs := by
  refine (refs_calls hc hm).mono ?_
  rintro e w' ⟨u, rfl, h1, h2⟩
  obtain ⟨ad, cap, rfl, h3, _⟩ := h1.ex
  exact ⟨ad, cap, rfl, h3, h2, h.still h2⟩
end

/-- What is known of a value. -/
inductive Fact where
  | any
  | is (v : Value)
  | ints (ks : List Int)
  | en (es : List En)
  | ca (es : List En)
def Fact.of : Fact → Value → World → Prop
  | .any, _, _ => True
  | .is u, v, _ => v = u
  | .ints ks, v, w => NsAt w v ks
  | .en es, v, w => LaAt w v es
  | .ca es, v, w => ∃ u, v = .agg #[u] ∧ CaAt w u es
theorem Fact.later : ∀ {F : Fact} {v : Value} {w w' : World}, F.of v w → Below w.heap.size w w' → F.of v w'
  | .any, _, _, _, _, _ => trivial
  | .is _, _, _, _, h, _ => h
  | .ints _, _, _, _, h, hb => NsAt.later h hb
  | .en _, _, _, _, h, hb => LaAt.later h hb
  | .ca _, _, _, _, h, hb => by obtain ⟨u, e, hc⟩ := h; exact ⟨u, e, hc.later hb⟩
theorem evc (a : Act) (c : Value) : a.eval (.const c) = c := rfl

def fx16 : Nat → List En
  | 0 => []
  | 1 => [⟨5, 15, 0, 0⟩]
  | 2 => [⟨1, 11, 0, 0⟩, ⟨5, 15, 0, 0⟩]
  | 3 => [⟨1, 11, 0, 0⟩, ⟨3, 13, 0, 0⟩, ⟨5, 15, 0, 0⟩]
  | _ => [⟨1, 11, 0, 0⟩, ⟨2, 12, 0, 0⟩, ⟨3, 13, 0, 0⟩, ⟨5, 15, 0, 0⟩]
def fd16 : List En := [⟨2, 12, 0, 0⟩, ⟨3, 13, 0, 0⟩, ⟨4, 14, 0, 0⟩, ⟨5, 15, 0, 0⟩]
def ff16 : List En := [⟨2, 12, 0, 0⟩, ⟨3, 33, 0, 0⟩, ⟨4, 14, 0, 0⟩, ⟨5, 15, 0, 0⟩]

set_option maxRecDepth 100000 in
set_option maxHeartbeats 32000000 in
theorem fixed16_calls (w : World) :
    Calls Try.prog 61 #[] w fun e w' => e = .returned (.bool true) ∧ Below w.heap.size w w' := by
  have H0 := hid ((Hd.boxk (o := .cells #[.slice none 0 0] 85 (0, 0)) w.heap.size rfl (Hd.refl w)).boxk (o := .cells #[.int .i64 0, .int .i64 0, .int .u64 0, .int .u64 0] 91 (0, 0)) (w.heap.size + 1) (by simp))
  go_enter Try.func61, Try.ntmps61
  go_wp2_with fail
  go_loopw [4] (fun i wr => ∃ (j : Nat) (v : Value), j ≤ 4 ∧ i = .int .i64 j ∧ Hid (Hd w wr [CaR v (fx16 j), Blk (w.heap.size + 1) (.cells #[.int .i64 0, .int .i64 0, .int .u64 0, .int .u64 0] 91 (0, 0)), Blk w.heap.size (.cells #[v] 85 (0, 0))])) (fun i _ => 4 - (intOf i).toNat)
  case atStart => exact ⟨0, _, Nat.zero_le _, rfl, hid H0.out.addCaNil⟩
  case round =>
    clear H0
    obtain ⟨j, v, hj, rfl, H⟩ := hrel
    obtain ⟨wo, hwo⟩ : ∃ wo : World, wo = wr := ⟨_, rfl⟩
    rw [← hwo] at H ⊢
    clear hwo wr
    obtain ⟨ad, cap, rfl⟩ := H.out.ca_form
    by_cases hlt : j < 4
    · rcases (show j = 0 ∨ j = 1 ∨ j = 2 ∨ j = 3 by omega) with rfl | rfl | rfl | rfl
      · skip
        have hk := Hd.nthk 2 H.out rfl
        have c0 := (cell_of_heap hk 0).trans (show _ = some (.slice ad _ cap) from rfl)
        have cf := frozen_of_heap hk
        have cl := (Array.getElem?_eq_some_iff.1 hk).1
        clear hk
        have hk := Hd.nthk 1 H.out rfl
        have z0 := (cell_of_heap hk 0).trans (show _ = some (.int .i64 0) from rfl)
        have z1 := (cell_of_heap hk 1).trans (show _ = some (.int .i64 0) from rfl)
        have z2 := (cell_of_heap hk 2).trans (show _ = some (.int .u64 0) from rfl)
        have z3 := (cell_of_heap hk 3).trans (show _ = some (.int .u64 0) from rfl)
        have zf := frozen_of_heap hk
        have zl := (Array.getElem?_eq_some_iff.1 hk).1
        clear hk
        have hne := neq_E En.zero En.zero
        rw [show decide (En.zero = En.zero) = true from rfl] at hne
        dsimp only [En.zero] at hne
        clear hlt hj
        go_wp2_with fail
        refine (put16_is (es := fx16 0) (es' := fx16 1) 5 15 0 0 (by rfl) (rises_of (by decide)) (by decide) H.out.al.ca H.out.al).mono ?_
        obtain ⟨L, hL⟩ : ∃ L, fx16 1 = L := ⟨_, rfl⟩
        rw [hL]
        rintro e w1 ⟨ad1, cap1, rfl, hd⟩
        have H1 := hid hd.swap.drop
        have HL := hid hL
        clear hL c0 z0 z1 z2 z3 H hd
        have hk := Hd.nthk 2 H1.out rfl
        have c0 := (cell_of_heap hk 0).trans (show _ = some (.slice ad _ cap) from rfl)
        have cf := frozen_of_heap hk
        have cl := (Array.getElem?_eq_some_iff.1 hk).1
        clear hk
        have hk := Hd.nthk 1 H1.out rfl
        have z0 := (cell_of_heap hk 0).trans (show _ = some (.int .i64 0) from rfl)
        have z1 := (cell_of_heap hk 1).trans (show _ = some (.int .i64 0) from rfl)
        have z2 := (cell_of_heap hk 2).trans (show _ = some (.int .u64 0) from rfl)
        have z3 := (cell_of_heap hk 3).trans (show _ = some (.int .u64 0) from rfl)
        have zf := frozen_of_heap hk
        have zl := (Array.getElem?_eq_some_iff.1 hk).1
        clear hk
        go_wp2_with fail
        go_roundw
        case rel => exact ⟨1, .slice ad1 L.length cap1, by omega, rfl, hid (by rw [HL.out]; exact (H1.out.third.set 0 (.slice ad1 L.length cap1)).unthird.al.al)⟩
        case measure => simp [intOf]
      · skip
        have hk := Hd.nthk 2 H.out rfl
        have c0 := (cell_of_heap hk 0).trans (show _ = some (.slice ad _ cap) from rfl)
        have cf := frozen_of_heap hk
        have cl := (Array.getElem?_eq_some_iff.1 hk).1
        clear hk
        have hk := Hd.nthk 1 H.out rfl
        have z0 := (cell_of_heap hk 0).trans (show _ = some (.int .i64 0) from rfl)
        have z1 := (cell_of_heap hk 1).trans (show _ = some (.int .i64 0) from rfl)
        have z2 := (cell_of_heap hk 2).trans (show _ = some (.int .u64 0) from rfl)
        have z3 := (cell_of_heap hk 3).trans (show _ = some (.int .u64 0) from rfl)
        have zf := frozen_of_heap hk
        have zl := (Array.getElem?_eq_some_iff.1 hk).1
        clear hk
        have hne := neq_E En.zero En.zero
        rw [show decide (En.zero = En.zero) = true from rfl] at hne
        dsimp only [En.zero] at hne
        clear hlt hj
        go_wp2_with fail
        refine (put16_is (es := fx16 1) (es' := fx16 2) 1 11 0 0 (by rfl) (rises_of (by decide)) (by decide) H.out.al.ca H.out.al).mono ?_
        obtain ⟨L, hL⟩ : ∃ L, fx16 2 = L := ⟨_, rfl⟩
        rw [hL]
        rintro e w1 ⟨ad1, cap1, rfl, hd⟩
        have H1 := hid hd.swap.drop
        have HL := hid hL
        clear hL c0 z0 z1 z2 z3 H hd
        have hk := Hd.nthk 2 H1.out rfl
        have c0 := (cell_of_heap hk 0).trans (show _ = some (.slice ad _ cap) from rfl)
        have cf := frozen_of_heap hk
        have cl := (Array.getElem?_eq_some_iff.1 hk).1
        clear hk
        have hk := Hd.nthk 1 H1.out rfl
        have z0 := (cell_of_heap hk 0).trans (show _ = some (.int .i64 0) from rfl)
        have z1 := (cell_of_heap hk 1).trans (show _ = some (.int .i64 0) from rfl)
        have z2 := (cell_of_heap hk 2).trans (show _ = some (.int .u64 0) from rfl)
        have z3 := (cell_of_heap hk 3).trans (show _ = some (.int .u64 0) from rfl)
        have zf := frozen_of_heap hk
        have zl := (Array.getElem?_eq_some_iff.1 hk).1
        clear hk
        go_wp2_with fail
        go_roundw
        case rel => exact ⟨2, .slice ad1 L.length cap1, by omega, rfl, hid (by rw [HL.out]; exact (H1.out.third.set 0 (.slice ad1 L.length cap1)).unthird.al.al)⟩
        case measure => simp [intOf]
      · skip
        have hk := Hd.nthk 2 H.out rfl
        have c0 := (cell_of_heap hk 0).trans (show _ = some (.slice ad _ cap) from rfl)
        have cf := frozen_of_heap hk
        have cl := (Array.getElem?_eq_some_iff.1 hk).1
        clear hk
        have hk := Hd.nthk 1 H.out rfl
        have z0 := (cell_of_heap hk 0).trans (show _ = some (.int .i64 0) from rfl)
        have z1 := (cell_of_heap hk 1).trans (show _ = some (.int .i64 0) from rfl)
        have z2 := (cell_of_heap hk 2).trans (show _ = some (.int .u64 0) from rfl)
        have z3 := (cell_of_heap hk 3).trans (show _ = some (.int .u64 0) from rfl)
        have zf := frozen_of_heap hk
        have zl := (Array.getElem?_eq_some_iff.1 hk).1
        clear hk
        have hne := neq_E En.zero En.zero
        rw [show decide (En.zero = En.zero) = true from rfl] at hne
        dsimp only [En.zero] at hne
        clear hlt hj
        go_wp2_with fail
        refine (put16_is (es := fx16 2) (es' := fx16 3) 3 13 0 0 (by rfl) (rises_of (by decide)) (by decide) H.out.al.ca H.out.al).mono ?_
        obtain ⟨L, hL⟩ : ∃ L, fx16 3 = L := ⟨_, rfl⟩
        rw [hL]
        rintro e w1 ⟨ad1, cap1, rfl, hd⟩
        have H1 := hid hd.swap.drop
        have HL := hid hL
        clear hL c0 z0 z1 z2 z3 H hd
        have hk := Hd.nthk 2 H1.out rfl
        have c0 := (cell_of_heap hk 0).trans (show _ = some (.slice ad _ cap) from rfl)
        have cf := frozen_of_heap hk
        have cl := (Array.getElem?_eq_some_iff.1 hk).1
        clear hk
        have hk := Hd.nthk 1 H1.out rfl
        have z0 := (cell_of_heap hk 0).trans (show _ = some (.int .i64 0) from rfl)
        have z1 := (cell_of_heap hk 1).trans (show _ = some (.int .i64 0) from rfl)
        have z2 := (cell_of_heap hk 2).trans (show _ = some (.int .u64 0) from rfl)
        have z3 := (cell_of_heap hk 3).trans (show _ = some (.int .u64 0) from rfl)
        have zf := frozen_of_heap hk
        have zl := (Array.getElem?_eq_some_iff.1 hk).1
        clear hk
        go_wp2_with fail
        go_roundw
        case rel => exact ⟨3, .slice ad1 L.length cap1, by omega, rfl, hid (by rw [HL.out]; exact (H1.out.third.set 0 (.slice ad1 L.length cap1)).unthird.al.al)⟩
        case measure => simp [intOf]
      · skip
        have hk := Hd.nthk 2 H.out rfl
        have c0 := (cell_of_heap hk 0).trans (show _ = some (.slice ad _ cap) from rfl)
        have cf := frozen_of_heap hk
        have cl := (Array.getElem?_eq_some_iff.1 hk).1
        clear hk
        have hk := Hd.nthk 1 H.out rfl
        have z0 := (cell_of_heap hk 0).trans (show _ = some (.int .i64 0) from rfl)
        have z1 := (cell_of_heap hk 1).trans (show _ = some (.int .i64 0) from rfl)
        have z2 := (cell_of_heap hk 2).trans (show _ = some (.int .u64 0) from rfl)
        have z3 := (cell_of_heap hk 3).trans (show _ = some (.int .u64 0) from rfl)
        have zf := frozen_of_heap hk
        have zl := (Array.getElem?_eq_some_iff.1 hk).1
        clear hk
        have hne := neq_E En.zero En.zero
        rw [show decide (En.zero = En.zero) = true from rfl] at hne
        dsimp only [En.zero] at hne
        clear hlt hj
        go_wp2_with fail
        refine (put16_is (es := fx16 3) (es' := fx16 4) 2 12 0 0 (by rfl) (rises_of (by decide)) (by decide) H.out.al.ca H.out.al).mono ?_
        obtain ⟨L, hL⟩ : ∃ L, fx16 4 = L := ⟨_, rfl⟩
        rw [hL]
        rintro e w1 ⟨ad1, cap1, rfl, hd⟩
        have H1 := hid hd.swap.drop
        have HL := hid hL
        clear hL c0 z0 z1 z2 z3 H hd
        have hk := Hd.nthk 2 H1.out rfl
        have c0 := (cell_of_heap hk 0).trans (show _ = some (.slice ad _ cap) from rfl)
        have cf := frozen_of_heap hk
        have cl := (Array.getElem?_eq_some_iff.1 hk).1
        clear hk
        have hk := Hd.nthk 1 H1.out rfl
        have z0 := (cell_of_heap hk 0).trans (show _ = some (.int .i64 0) from rfl)
        have z1 := (cell_of_heap hk 1).trans (show _ = some (.int .i64 0) from rfl)
        have z2 := (cell_of_heap hk 2).trans (show _ = some (.int .u64 0) from rfl)
        have z3 := (cell_of_heap hk 3).trans (show _ = some (.int .u64 0) from rfl)
        have zf := frozen_of_heap hk
        have zl := (Array.getElem?_eq_some_iff.1 hk).1
        clear hk
        go_wp2_with fail
        go_roundw
        case rel => exact ⟨4, .slice ad1 L.length cap1, by omega, rfl, hid (by rw [HL.out]; exact (H1.out.third.set 0 (.slice ad1 L.length cap1)).unthird.al.al)⟩
        case measure => simp [intOf]
    · obtain rfl : j = 4 := by omega
      clear hlt hj
      have hk := Hd.nthk 2 H.out rfl
      have c0 := (cell_of_heap hk 0).trans (show _ = some (.slice ad _ cap) from rfl)
      have cs := (Array.getElem?_eq_some_iff.1 hk).1
      clear hk
      have hk := Hd.nthk 1 H.out rfl
      have zf := frozen_of_heap hk
      have zl := (Array.getElem?_eq_some_iff.1 hk).1
      clear hk
      have hk := Hd.nthk 1 H.out rfl
      have z0 := (cell_of_heap hk 0).trans (show _ = some (.int .i64 0) from rfl)
      have z1 := (cell_of_heap hk 1).trans (show _ = some (.int .i64 0) from rfl)
      have z2 := (cell_of_heap hk 2).trans (show _ = some (.int .u64 0) from rfl)
      have z3 := (cell_of_heap hk 3).trans (show _ = some (.int .u64 0) from rfl)
      have zs := (Array.getElem?_eq_some_iff.1 hk).1
      clear hk
      go_wp2_with fail
      refine (put16_is (es := fx16 4) (es' := fd16) 4 14 0 0 (by rfl) (rises_of (by decide)) (by decide) H.out.ca H.out).mono ?_
      rintro e w1 ⟨adD, capD, rfl, hd⟩
      have H3 := hid hd
      clear H c0 cs zf zl z0 z1 z2 z3 zs hd
      have H := H3
      clear H3
      have hk := Hd.nthk 2 H.out rfl
      have zf := frozen_of_heap hk
      have zl := (Array.getElem?_eq_some_iff.1 hk).1
      clear hk
      have hk := Hd.nthk 2 H.out rfl
      have z0 := (cell_of_heap hk 0).trans (show _ = some (.int .i64 0) from rfl)
      have z1 := (cell_of_heap hk 1).trans (show _ = some (.int .i64 0) from rfl)
      have z2 := (cell_of_heap hk 2).trans (show _ = some (.int .u64 0) from rfl)
      have z3 := (cell_of_heap hk 3).trans (show _ = some (.int .u64 0) from rfl)
      have zs := (Array.getElem?_eq_some_iff.1 hk).1
      clear hk
      have hk := Hd.nthk 3 H.out rfl
      have c0 := (cell_of_heap hk 0).trans (show _ = some (.slice ad _ cap) from rfl)
      have cs := (Array.getElem?_eq_some_iff.1 hk).1
      clear hk
      go_wp2_with fail
      have H2 := hid (((((((H.out.front 2 rfl).set 0 (.int .i64 1)).set 1 (.int .i64 11)).set 2 (.int .u64 0)).set 3 (.int .u64 0))).boxk (o := .cells #[.slice adD fd16.length capD] 85 (0, 0)) w1.heap.size (by simp))
      clear H zf zl z0 z1 z2 z3 zs c0 cs
      have H := H2
      clear H2
      obtain ⟨wa, hwa⟩ : ∃ wa, wa = (((((w1.setCell ⟨w.heap.size + 1, 0, none⟩ (.int .i64 1)).setCell ⟨w.heap.size + 1, 1, none⟩ (.int .i64 11)).setCell ⟨w.heap.size + 1, 2, none⟩ (.int .u64 0)).setCell ⟨w.heap.size + 1, 3, none⟩ (.int .u64 0)).alloc (.cells #[.slice adD fd16.length capD] 85 (0, 0))) := ⟨_, rfl⟩
      rw [← hwa] at H ⊢
      clear hwa
      refine (get16_is (es := fd16) (ga := 4) (gk := 14) (gx := 0) (gy := 0) (b := true) 4 (by rfl) (rises_of (by decide)) (by decide) (H.out.front 2 rfl).ca H.out).mono ?_
      rintro e w2 ⟨rfl, hd⟩
      have H3 := hid hd
      clear H hd
      have H := H3
      clear H3
      have hk := Hd.nthk 0 H.out rfl
      have d0 := (cell_of_heap hk 0).trans (show _ = some (.slice adD _ capD) from rfl)
      have ds := (Array.getElem?_eq_some_iff.1 hk).1
      clear hk
      go_wp2_with fail
      have H2 := hid (H.out.boxk (o := .cells #[.int .i64 4, .int .i64 14, .int .u64 0, .int .u64 0] 91 (0, 0)) w2.heap.size rfl)
      clear H d0 ds
      have H := H2
      clear H2
      refine (get16_is (es := fd16) (ga := 0) (gk := 0) (gx := 0) (gy := 0) (b := false) 1 (by rfl) (rises_of (by decide)) (by decide) (H.out.front 3 rfl).ca H.out).mono ?_
      rintro e w3 ⟨rfl, hd⟩
      have H3 := hid hd
      clear H hd
      have H := H3
      clear H3
      have hk := Hd.nthk 1 H.out rfl
      have d0 := (cell_of_heap hk 0).trans (show _ = some (.slice adD _ capD) from rfl)
      have ds := (Array.getElem?_eq_some_iff.1 hk).1
      clear hk
      go_wp2_with fail
      have H2 := hid (H.out.al (o := .cells #[.int .i64 0, .int .i64 0, .int .u64 0, .int .u64 0] 91 (0, 0)))
      clear H d0 ds
      have H := H2
      clear H2
      refine (put16_is (es := fd16) (es' := ff16) 3 33 0 0 (by rfl) (rises_of (by decide)) (by decide) (H.out.front 3 rfl).ca H.out).mono ?_
      rintro e w4 ⟨adF, capF, rfl, hd⟩
      have H3 := hid hd
      clear H hd
      have H := H3
      clear H3
      have hk := Hd.nthk 2 H.out rfl
      have d0 := (cell_of_heap hk 0).trans (show _ = some (.slice adD _ capD) from rfl)
      have ds := (Array.getElem?_eq_some_iff.1 hk).1
      clear hk
      go_wp2_with fail
      have H2 := hid ((H.out.boxk (o := .cells #[.slice adF ff16.length capF] 85 (0, 0)) w4.heap.size rfl).al (o := .cells #[.int .i64 0, .int .i64 0, .int .u64 0, .int .u64 0] 91 (0, 0)))
      clear H d0 ds
      have H := H2
      clear H2
      refine (put16_is (es := fd16) (es' := fd16) (ga := 0) (gk := 9) (gx := 0) (gy := 0) (b := true) 0 9 0 0 (by rfl) (rises_of (by decide)) (by decide) (H.out.front 5 rfl).ca H.out).mono ?_
      rintro e w5 ⟨adG, capG, rfl, hd⟩
      have H3 := hid hd
      clear H hd
      have H := H3
      clear H3
      have hk := Hd.nthk 8 H.out rfl
      have c0 := (cell_of_heap hk 0).trans (show _ = some (.slice ad _ cap) from rfl)
      have cs := (Array.getElem?_eq_some_iff.1 hk).1
      clear hk
      go_wp2_with fail
      have H2 := hid ((H.out.boxk (o := .cells #[.slice adG fd16.length capG] 85 (0, 0)) w5.heap.size rfl).boxk (o := .cells #[.int .i64 0, .int .i64 9, .int .u64 0, .int .u64 0] 91 (0, 0)) (w5.heap.size + 1) (by simp))
      clear H c0 cs
      have H := H2
      clear H2
      obtain ⟨wz, hwz⟩ : ∃ wz, (w5.alloc (.cells #[.slice adG fd16.length capG] 85 (0, 0))).alloc (.cells #[.int .i64 0, .int .i64 9, .int .u64 0, .int .u64 0] 91 (0, 0)) = wz := ⟨_, rfl⟩
      rw [hwz] at H ⊢
      clear hwz
      have kC0 := (cell_of_heap (Hd.nthk 10 H.out rfl) 0).trans (show _ = some (.slice ad (fx16 4).length cap) from rfl)
      have HCC := hid (H.out.front 9 rfl).ca
      have kD0 := (cell_of_heap (Hd.nthk 6 H.out rfl) 0).trans (show _ = some (.slice adD fd16.length capD) from rfl)
      have HCD := hid (H.out.front 8 rfl).ca
      have kF0 := (cell_of_heap (Hd.nthk 3 H.out rfl) 0).trans (show _ = some (.slice adF ff16.length capF) from rfl)
      have HCF := hid (H.out.front 4 rfl).ca
      have kG0 := (cell_of_heap (Hd.nthk 1 H.out rfl) 0).trans (show _ = some (.slice adG fd16.length capG) from rfl)
      have HCG := hid (H.out.front 2 rfl).ca
      have kZ0 := (cell_of_heap (Hd.nthk 7 H.out rfl) 0).trans (show _ = some (.int .i64 1) from rfl)
      have kZ1 := (cell_of_heap (Hd.nthk 7 H.out rfl) 1).trans (show _ = some (.int .i64 11) from rfl)
      have kZ2 := (cell_of_heap (Hd.nthk 7 H.out rfl) 2).trans (show _ = some (.int .u64 0) from rfl)
      have kZ3 := (cell_of_heap (Hd.nthk 7 H.out rfl) 3).trans (show _ = some (.int .u64 0) from rfl)
      have kE0 := (cell_of_heap (Hd.nthk 5 H.out rfl) 0).trans (show _ = some (.int .i64 4) from rfl)
      have kE1 := (cell_of_heap (Hd.nthk 5 H.out rfl) 1).trans (show _ = some (.int .i64 14) from rfl)
      have kE2 := (cell_of_heap (Hd.nthk 5 H.out rfl) 2).trans (show _ = some (.int .u64 0) from rfl)
      have kE3 := (cell_of_heap (Hd.nthk 5 H.out rfl) 3).trans (show _ = some (.int .u64 0) from rfl)
      have kL0 := (cell_of_heap (Hd.nthk 0 H.out rfl) 0).trans (show _ = some (.int .i64 0) from rfl)
      have kL1 := (cell_of_heap (Hd.nthk 0 H.out rfl) 1).trans (show _ = some (.int .i64 9) from rfl)
      have kL2 := (cell_of_heap (Hd.nthk 0 H.out rfl) 2).trans (show _ = some (.int .u64 0) from rfl)
      have kL3 := (cell_of_heap (Hd.nthk 0 H.out rfl) 3).trans (show _ = some (.int .u64 0) from rfl)
      have mixed : Try.prog.follows .mixedOrders = true := by kernel_rfl
      have cf44 : ∀ args w, (callFunc 44 args).run Try.prog w = .ok (.enter 44 args) w := fun args w => by kernel_rfl
      have cf50 : ∀ args w, (callFunc 50 args).run Try.prog w = .ok (.enter 50 args) w := fun args w => by kernel_rfl
      have cf59 : ∀ args w, (callFunc 59 args).run Try.prog w = .ok (.enter 59 args) w := fun args w => by kernel_rfl
      refine wp_region_rel ([] :: [0] :: [] :: [1, 2] :: [3] :: [4] :: [4, 5] :: [4] :: [4, 6, 7] :: [4, 8] :: [9] :: [10] :: [10] :: [10, 11, 12] :: [10, 13] :: [14] :: [15] :: [15, 16] :: [17] :: [18] :: [18] :: [18, 19, 20] :: [18, 21] :: [22] :: [23] :: [23, 24] :: [25] :: [26] :: [26, 27] :: [26, 28] :: [29] :: [30] :: [30, 31] :: [30] :: [30, 32, 33] :: [30, 34] :: [35] :: [36] :: [36, 37] :: [36, 38] :: [36] :: [36, 39, 40] :: [36, 41] :: [42] :: [43] :: [43, 44] :: [43, 45] :: [43] :: [43, 47] :: [43, 46, 48] :: [43, 49] :: [50] :: [51] :: [51, 52] :: [51] :: [51, 54] :: [51, 53, 55] :: [51, 56] :: [57] :: [58] :: [58, 59] :: [58, 60] :: [58, 61] :: [62] :: [63] :: [63, 64] :: [65] :: []) (78 :: 79 :: 80 :: 81 :: 82 :: 83 :: 84 :: 85 :: 86 :: 87 :: 88 :: 89 :: 90 :: 91 :: 92 :: 93 :: 94 :: 95 :: 96 :: 97 :: 98 :: 99 :: 100 :: 101 :: 102 :: 103 :: 104 :: 105 :: 106 :: 107 :: 108 :: 109 :: 110 :: 111 :: 112 :: 113 :: 114 :: 115 :: 116 :: 117 :: 118 :: 119 :: 120 :: 121 :: 122 :: 123 :: 124 :: 125 :: 126 :: 127 :: 128 :: 129 :: 130 :: 131 :: 132 :: 133 :: 134 :: 135 :: 136 :: 137 :: 138 :: 139 :: 140 :: 141 :: 142 :: 143 :: 0 :: []) (fun i v w => ((
          .is (.agg #[.slice ad (fx16 4).length cap]) ::
          .ints (kKeys (fx16 4)) ::
          .ints [11, 12, 13, 15] ::
          .is (.bool true) ::
          .is (.bool true) ::
          .is (.agg #[.slice adD fd16.length capD]) ::
          .ints (kKeys (fd16)) ::
          .ints [12, 13, 14, 15] ::
          .is (.bool true) ::
          .is (.bool true) ::
          .is (.bool true) ::
          .is (.agg #[.int .i64 1, .int .i64 11, .int .u64 0, .int .u64 0]) ::
          .is (.agg #[.int .i64 1, .int .i64 11, .int .u64 0, .int .u64 0]) ::
          .is (.bool true) ::
          .is (.bool true) ::
          .is (.bool true) ::
          .is (.bool true) ::
          .is (.bool true) ::
          .is (.bool true) ::
          .is (.agg #[.int .i64 4, .int .i64 14, .int .u64 0, .int .u64 0]) ::
          .is (.agg #[.int .i64 4, .int .i64 14, .int .u64 0, .int .u64 0]) ::
          .is (.bool true) ::
          .is (.bool true) ::
          .is (.bool true) ::
          .is (.bool true) ::
          .is (.bool true) ::
          .is (.bool true) ::
          .is (.bool false) ::
          .is (.bool true) ::
          .is (.bool true) ::
          .is (.bool true) ::
          .is (.agg #[.slice adF ff16.length capF]) ::
          .ints (kKeys (ff16)) ::
          .ints [12, 33, 14, 15] ::
          .is (.bool true) ::
          .is (.bool true) ::
          .is (.bool true) ::
          .is (.agg #[.slice adD fd16.length capD]) ::
          .ca (kDrop fd16 3) ::
          .ints (kKeys (kDrop fd16 3)) ::
          .ints [12, 14, 15] ::
          .is (.bool true) ::
          .is (.bool true) ::
          .is (.bool true) ::
          .is (.agg #[.slice adD fd16.length capD]) ::
          .ca (kDrop fd16 9) ::
          .ints (kKeys (kDrop fd16 9)) ::
          .is (.agg #[.slice adD fd16.length capD]) ::
          .ints (kKeys (fd16)) ::
          .is (.bool true) ::
          .is (.bool true) ::
          .is (.bool true) ::
          .is (.agg #[.slice adG fd16.length capG]) ::
          .ints (kKeys (fd16)) ::
          .is (.agg #[.slice adD fd16.length capD]) ::
          .ints (kKeys (fd16)) ::
          .is (.bool true) ::
          .is (.bool true) ::
          .is (.bool true) ::
          .is (.pointer (some ⟨w5.heap.size + 1, 1, none⟩)) ::
          .is (.int .i64 9) ::
          .is (.bool true) ::
          .is (.bool true) ::
          .is (.bool true) ::
          .is (.bool true) ::
          .is (.bool true) ::
          .is (.bool true) :: ([] : List Fact)).getD i .any).of v w) (by kernel_rfl) (by kernel_rfl) (fun d hd => Nat.lt_of_lt_of_eq (rel_lt (n := 144) (by decide) d hd) rfl) ?_ ?_ ?_ (fun t => t == 0 || decide (78 ≤ t)) (by decide) ?_
      · repeat (refine StepAll.cons (by first | exact trivial | exact fun v w h => h) ?_)
        exact trivial
      · intro i v w x h hb
        exact Fact.later h hb
      ·
        refine StepAll.cons ?_ ?_
        · intro a wx hn hr hb K hK
          have ec := evc a
          have e1 : a.eval (.tmp 1) = .pointer (some ⟨w.heap.size, 0, none⟩) := (hr 1 (by decide)).trans rfl
          have c0 := bcl hb kC0
          exact rel_run (v := .agg #[.slice ad (fx16 4).length cap]) (by clear hn hr hK; generalize a.eval = ρ at *; simp [execOp, e1, c0, go_sem]) rfl (Below.refl _ _) hK
        refine StepAll.cons ?_ ?_
        · intro a wx hn hr hb K hK
          have ec := evc a
          have e78 : a.eval (.tmp 78) = .agg #[.slice ad (fx16 4).length cap] := hn 0 (by decide)
          have ef : a.eval (.func 59) = .func (.func 59) #[] #[] := rfl
          exact rel_call (by clear hn hr hK; generalize a.eval = ρ at *; simp [execOp, e78, cf59, ef, go_sem]) (keys_calls (HCC.out.later hb) (by decide)) hK
        refine StepAll.cons ?_ ?_
        · intro a wx hn hr hb K hK
          have ec := evc a
          exact rel_run (v := .slice (some ⟨wx.heap.size, 0, none⟩) 4 4) (w' := wx.alloc (.cells #[.int .i64 11, .int .i64 12, .int .i64 13, .int .i64 15] 3 (0, 0))) (by clear hn hr hK; generalize a.eval = ρ at *; simp [execOp, ec, go_sem]) ⟨_, _, rfl, ints_lit [11, 12, 13, 15] rfl⟩ ((Below.refl _ _).alloc (Nat.le_refl _) _) hK
        refine StepAll.cons ?_ ?_
        · intro a wx hn hr hb K hK
          have ec := evc a
          obtain ⟨ad79, cp79, e79, i79⟩ := (show NsAt wx (a.eval (.tmp 79)) (kKeys (fx16 4)) from hn 1 (by decide)).ex
          obtain ⟨ad80, cp80, e80, i80⟩ := (show NsAt wx (a.eval (.tmp 80)) [11, 12, 13, 15] from hn 2 (by decide)).ex
          have ef : a.eval (.func 44) = .func (.func 44) #[] #[] := rfl
          exact rel_call (by clear hn hr hK; generalize a.eval = ρ at *; simp [execOp, e79, e80, cf44, ef, go_sem]) ((same_calls (c1 := cp79) (c2 := cp80) i79 i80 rfl rfl (by decide) (by decide)).mono (fun e w2 h => ⟨.bool true, h.1.trans (by rw [show decide (((kKeys (fx16 4)) : List Int) = [11, 12, 13, 15]) = true from by decide]), rfl, h.2⟩)) hK
        refine StepAll.cons ?_ ?_
        · intro a wx hn hr hb K hK
          have ec := evc a
          have e81 : a.eval (.tmp 81) = .bool true := hn 3 (by decide)
          exact rel_run (v := .bool true) (by clear hn hr hK; generalize a.eval = ρ at *; simp [execOp, e81, go_sem]) rfl (Below.refl _ _) hK
        refine StepAll.cons ?_ ?_
        · intro a wx hn hr hb K hK
          have ec := evc a
          have e9 : a.eval (.tmp 9) = .pointer (some ⟨w1.heap.size, 0, none⟩) := (hr 9 (by decide)).trans rfl
          have c0 := bcl hb kD0
          exact rel_run (v := .agg #[.slice adD fd16.length capD]) (by clear hn hr hK; generalize a.eval = ρ at *; simp [execOp, e9, c0, go_sem]) rfl (Below.refl _ _) hK
        refine StepAll.cons ?_ ?_
        · intro a wx hn hr hb K hK
          have ec := evc a
          have e83 : a.eval (.tmp 83) = .agg #[.slice adD fd16.length capD] := hn 5 (by decide)
          have ef : a.eval (.func 59) = .func (.func 59) #[] #[] := rfl
          exact rel_call (by clear hn hr hK; generalize a.eval = ρ at *; simp [execOp, e83, cf59, ef, go_sem]) (keys_calls (HCD.out.later hb) (by decide)) hK
        refine StepAll.cons ?_ ?_
        · intro a wx hn hr hb K hK
          have ec := evc a
          exact rel_run (v := .slice (some ⟨wx.heap.size, 0, none⟩) 4 4) (w' := wx.alloc (.cells #[.int .i64 12, .int .i64 13, .int .i64 14, .int .i64 15] 3 (0, 0))) (by clear hn hr hK; generalize a.eval = ρ at *; simp [execOp, ec, go_sem]) ⟨_, _, rfl, ints_lit [12, 13, 14, 15] rfl⟩ ((Below.refl _ _).alloc (Nat.le_refl _) _) hK
        refine StepAll.cons ?_ ?_
        · intro a wx hn hr hb K hK
          have ec := evc a
          obtain ⟨ad84, cp84, e84, i84⟩ := (show NsAt wx (a.eval (.tmp 84)) (kKeys (fd16)) from hn 6 (by decide)).ex
          obtain ⟨ad85, cp85, e85, i85⟩ := (show NsAt wx (a.eval (.tmp 85)) [12, 13, 14, 15] from hn 7 (by decide)).ex
          have ef : a.eval (.func 44) = .func (.func 44) #[] #[] := rfl
          exact rel_call (by clear hn hr hK; generalize a.eval = ρ at *; simp [execOp, e84, e85, cf44, ef, go_sem]) ((same_calls (c1 := cp84) (c2 := cp85) i84 i85 rfl rfl (by decide) (by decide)).mono (fun e w2 h => ⟨.bool true, h.1.trans (by rw [show decide (((kKeys (fd16)) : List Int) = [12, 13, 14, 15]) = true from by decide]), rfl, h.2⟩)) hK
        refine StepAll.cons ?_ ?_
        · intro a wx hn hr hb K hK
          have ec := evc a
          have e82 : a.eval (.tmp 82) = .bool true := hn 4 (by decide)
          have e86 : a.eval (.tmp 86) = .bool true := hn 8 (by decide)
          exact rel_run (v := .bool true) (by clear hn hr hK; generalize a.eval = ρ at *; simp [execOp, ec, e82, e86, go_sem]) rfl (Below.refl _ _) hK
        refine StepAll.cons ?_ ?_
        · intro a wx hn hr hb K hK
          have ec := evc a
          have e87 : a.eval (.tmp 87) = .bool true := hn 9 (by decide)
          exact rel_run (v := .bool true) (by clear hn hr hK; generalize a.eval = ρ at *; simp [execOp, e87, go_sem]) rfl (Below.refl _ _) hK
        refine StepAll.cons ?_ ?_
        · intro a wx hn hr hb K hK
          have ec := evc a
          have e2 : a.eval (.tmp 2) = .pointer (some ⟨w.heap.size + 1, 0, none⟩) := (hr 2 (by decide)).trans rfl
          have c0 := bcl hb kZ0
          have c1 := bcl hb kZ1
          have c2 := bcl hb kZ2
          have c3 := bcl hb kZ3
          exact rel_run (v := .agg #[.int .i64 1, .int .i64 11, .int .u64 0, .int .u64 0]) (by clear hn hr hK; generalize a.eval = ρ at *; simp [execOp, e2, c0, c1, c2, c3, go_sem]) rfl (Below.refl _ _) hK
        refine StepAll.cons ?_ ?_
        · intro a wx hn hr hb K hK
          have ec := evc a
          exact rel_run (v := .agg #[.int .i64 1, .int .i64 11, .int .u64 0, .int .u64 0]) (by clear hn hr hK; generalize a.eval = ρ at *; simp [execOp, ec, go_sem]) rfl (Below.refl _ _) hK
        refine StepAll.cons ?_ ?_
        · intro a wx hn hr hb K hK
          have ec := evc a
          have e89 : a.eval (.tmp 89) = .agg #[.int .i64 1, .int .i64 11, .int .u64 0, .int .u64 0] := hn 11 (by decide)
          have e90 : a.eval (.tmp 90) = .agg #[.int .i64 1, .int .i64 11, .int .u64 0, .int .u64 0] := hn 12 (by decide)
          have q := eq_E ⟨1, 11, 0, 0⟩ ⟨1, 11, 0, 0⟩ wx
          rw [show decide ((⟨1, 11, 0, 0⟩ : En) = ⟨1, 11, 0, 0⟩) = true from rfl] at q
          dsimp only at q
          exact rel_run (v := .bool true) (by clear hn hr hK; generalize a.eval = ρ at *; simp [execOp, e89, e90, go_sem]) rfl (Below.refl _ _) hK
        refine StepAll.cons ?_ ?_
        · intro a wx hn hr hb K hK
          have ec := evc a
          have e88 : a.eval (.tmp 88) = .bool true := hn 10 (by decide)
          have e91 : a.eval (.tmp 91) = .bool true := hn 13 (by decide)
          exact rel_run (v := .bool true) (by clear hn hr hK; generalize a.eval = ρ at *; simp [execOp, ec, e88, e91, go_sem]) rfl (Below.refl _ _) hK
        refine StepAll.cons ?_ ?_
        · intro a wx hn hr hb K hK
          have ec := evc a
          have e92 : a.eval (.tmp 92) = .bool true := hn 14 (by decide)
          exact rel_run (v := .bool true) (by clear hn hr hK; generalize a.eval = ρ at *; simp [execOp, e92, go_sem]) rfl (Below.refl _ _) hK
        refine StepAll.cons ?_ ?_
        · intro a wx hn hr hb K hK
          have ec := evc a
          have e3 : a.eval (.tmp 3) = .bool true := (hr 3 (by decide)).trans rfl
          exact rel_run (v := .bool true) (by clear hn hr hK; generalize a.eval = ρ at *; simp [execOp, e3, go_sem]) rfl (Below.refl _ _) hK
        refine StepAll.cons ?_ ?_
        · intro a wx hn hr hb K hK
          have ec := evc a
          have e93 : a.eval (.tmp 93) = .bool true := hn 15 (by decide)
          have e94 : a.eval (.tmp 94) = .bool true := hn 16 (by decide)
          exact rel_run (v := .bool true) (by clear hn hr hK; generalize a.eval = ρ at *; simp [execOp, ec, e93, e94, go_sem]) rfl (Below.refl _ _) hK
        refine StepAll.cons ?_ ?_
        · intro a wx hn hr hb K hK
          have ec := evc a
          have e95 : a.eval (.tmp 95) = .bool true := hn 17 (by decide)
          exact rel_run (v := .bool true) (by clear hn hr hK; generalize a.eval = ρ at *; simp [execOp, e95, go_sem]) rfl (Below.refl _ _) hK
        refine StepAll.cons ?_ ?_
        · intro a wx hn hr hb K hK
          have ec := evc a
          have e10 : a.eval (.tmp 10) = .pointer (some ⟨w2.heap.size, 0, none⟩) := (hr 10 (by decide)).trans rfl
          have c0 := bcl hb kE0
          have c1 := bcl hb kE1
          have c2 := bcl hb kE2
          have c3 := bcl hb kE3
          exact rel_run (v := .agg #[.int .i64 4, .int .i64 14, .int .u64 0, .int .u64 0]) (by clear hn hr hK; generalize a.eval = ρ at *; simp [execOp, e10, c0, c1, c2, c3, go_sem]) rfl (Below.refl _ _) hK
        refine StepAll.cons ?_ ?_
        · intro a wx hn hr hb K hK
          have ec := evc a
          exact rel_run (v := .agg #[.int .i64 4, .int .i64 14, .int .u64 0, .int .u64 0]) (by clear hn hr hK; generalize a.eval = ρ at *; simp [execOp, ec, go_sem]) rfl (Below.refl _ _) hK
        refine StepAll.cons ?_ ?_
        · intro a wx hn hr hb K hK
          have ec := evc a
          have e97 : a.eval (.tmp 97) = .agg #[.int .i64 4, .int .i64 14, .int .u64 0, .int .u64 0] := hn 19 (by decide)
          have e98 : a.eval (.tmp 98) = .agg #[.int .i64 4, .int .i64 14, .int .u64 0, .int .u64 0] := hn 20 (by decide)
          have q := eq_E ⟨4, 14, 0, 0⟩ ⟨4, 14, 0, 0⟩ wx
          rw [show decide ((⟨4, 14, 0, 0⟩ : En) = ⟨4, 14, 0, 0⟩) = true from rfl] at q
          dsimp only at q
          exact rel_run (v := .bool true) (by clear hn hr hK; generalize a.eval = ρ at *; simp [execOp, e97, e98, go_sem]) rfl (Below.refl _ _) hK
        refine StepAll.cons ?_ ?_
        · intro a wx hn hr hb K hK
          have ec := evc a
          have e96 : a.eval (.tmp 96) = .bool true := hn 18 (by decide)
          have e99 : a.eval (.tmp 99) = .bool true := hn 21 (by decide)
          exact rel_run (v := .bool true) (by clear hn hr hK; generalize a.eval = ρ at *; simp [execOp, ec, e96, e99, go_sem]) rfl (Below.refl _ _) hK
        refine StepAll.cons ?_ ?_
        · intro a wx hn hr hb K hK
          have ec := evc a
          have e100 : a.eval (.tmp 100) = .bool true := hn 22 (by decide)
          exact rel_run (v := .bool true) (by clear hn hr hK; generalize a.eval = ρ at *; simp [execOp, e100, go_sem]) rfl (Below.refl _ _) hK
        refine StepAll.cons ?_ ?_
        · intro a wx hn hr hb K hK
          have ec := evc a
          have e11 : a.eval (.tmp 11) = .bool true := (hr 11 (by decide)).trans rfl
          exact rel_run (v := .bool true) (by clear hn hr hK; generalize a.eval = ρ at *; simp [execOp, e11, go_sem]) rfl (Below.refl _ _) hK
        refine StepAll.cons ?_ ?_
        · intro a wx hn hr hb K hK
          have ec := evc a
          have e101 : a.eval (.tmp 101) = .bool true := hn 23 (by decide)
          have e102 : a.eval (.tmp 102) = .bool true := hn 24 (by decide)
          exact rel_run (v := .bool true) (by clear hn hr hK; generalize a.eval = ρ at *; simp [execOp, ec, e101, e102, go_sem]) rfl (Below.refl _ _) hK
        refine StepAll.cons ?_ ?_
        · intro a wx hn hr hb K hK
          have ec := evc a
          have e103 : a.eval (.tmp 103) = .bool true := hn 25 (by decide)
          exact rel_run (v := .bool true) (by clear hn hr hK; generalize a.eval = ρ at *; simp [execOp, e103, go_sem]) rfl (Below.refl _ _) hK
        refine StepAll.cons ?_ ?_
        · intro a wx hn hr hb K hK
          have ec := evc a
          have e13 : a.eval (.tmp 13) = .bool false := (hr 13 (by decide)).trans rfl
          exact rel_run (v := .bool false) (by clear hn hr hK; generalize a.eval = ρ at *; simp [execOp, e13, go_sem]) rfl (Below.refl _ _) hK
        refine StepAll.cons ?_ ?_
        · intro a wx hn hr hb K hK
          have ec := evc a
          have e105 : a.eval (.tmp 105) = .bool false := hn 27 (by decide)
          exact rel_run (v := .bool true) (by clear hn hr hK; generalize a.eval = ρ at *; simp [execOp, e105, go_sem]) rfl (Below.refl _ _) hK
        refine StepAll.cons ?_ ?_
        · intro a wx hn hr hb K hK
          have ec := evc a
          have e104 : a.eval (.tmp 104) = .bool true := hn 26 (by decide)
          have e106 : a.eval (.tmp 106) = .bool true := hn 28 (by decide)
          exact rel_run (v := .bool true) (by clear hn hr hK; generalize a.eval = ρ at *; simp [execOp, ec, e104, e106, go_sem]) rfl (Below.refl _ _) hK
        refine StepAll.cons ?_ ?_
        · intro a wx hn hr hb K hK
          have ec := evc a
          have e107 : a.eval (.tmp 107) = .bool true := hn 29 (by decide)
          exact rel_run (v := .bool true) (by clear hn hr hK; generalize a.eval = ρ at *; simp [execOp, e107, go_sem]) rfl (Below.refl _ _) hK
        refine StepAll.cons ?_ ?_
        · intro a wx hn hr hb K hK
          have ec := evc a
          have e14 : a.eval (.tmp 14) = .pointer (some ⟨w4.heap.size, 0, none⟩) := (hr 14 (by decide)).trans rfl
          have c0 := bcl hb kF0
          exact rel_run (v := .agg #[.slice adF ff16.length capF]) (by clear hn hr hK; generalize a.eval = ρ at *; simp [execOp, e14, c0, go_sem]) rfl (Below.refl _ _) hK
        refine StepAll.cons ?_ ?_
        · intro a wx hn hr hb K hK
          have ec := evc a
          have e109 : a.eval (.tmp 109) = .agg #[.slice adF ff16.length capF] := hn 31 (by decide)
          have ef : a.eval (.func 59) = .func (.func 59) #[] #[] := rfl
          exact rel_call (by clear hn hr hK; generalize a.eval = ρ at *; simp [execOp, e109, cf59, ef, go_sem]) (keys_calls (HCF.out.later hb) (by decide)) hK
        refine StepAll.cons ?_ ?_
        · intro a wx hn hr hb K hK
          have ec := evc a
          exact rel_run (v := .slice (some ⟨wx.heap.size, 0, none⟩) 4 4) (w' := wx.alloc (.cells #[.int .i64 12, .int .i64 33, .int .i64 14, .int .i64 15] 3 (0, 0))) (by clear hn hr hK; generalize a.eval = ρ at *; simp [execOp, ec, go_sem]) ⟨_, _, rfl, ints_lit [12, 33, 14, 15] rfl⟩ ((Below.refl _ _).alloc (Nat.le_refl _) _) hK
        refine StepAll.cons ?_ ?_
        · intro a wx hn hr hb K hK
          have ec := evc a
          obtain ⟨ad110, cp110, e110, i110⟩ := (show NsAt wx (a.eval (.tmp 110)) (kKeys (ff16)) from hn 32 (by decide)).ex
          obtain ⟨ad111, cp111, e111, i111⟩ := (show NsAt wx (a.eval (.tmp 111)) [12, 33, 14, 15] from hn 33 (by decide)).ex
          have ef : a.eval (.func 44) = .func (.func 44) #[] #[] := rfl
          exact rel_call (by clear hn hr hK; generalize a.eval = ρ at *; simp [execOp, e110, e111, cf44, ef, go_sem]) ((same_calls (c1 := cp110) (c2 := cp111) i110 i111 rfl rfl (by decide) (by decide)).mono (fun e w2 h => ⟨.bool true, h.1.trans (by rw [show decide (((kKeys (ff16)) : List Int) = [12, 33, 14, 15]) = true from by decide]), rfl, h.2⟩)) hK
        refine StepAll.cons ?_ ?_
        · intro a wx hn hr hb K hK
          have ec := evc a
          have e108 : a.eval (.tmp 108) = .bool true := hn 30 (by decide)
          have e112 : a.eval (.tmp 112) = .bool true := hn 34 (by decide)
          exact rel_run (v := .bool true) (by clear hn hr hK; generalize a.eval = ρ at *; simp [execOp, ec, e108, e112, go_sem]) rfl (Below.refl _ _) hK
        refine StepAll.cons ?_ ?_
        · intro a wx hn hr hb K hK
          have ec := evc a
          have e113 : a.eval (.tmp 113) = .bool true := hn 35 (by decide)
          exact rel_run (v := .bool true) (by clear hn hr hK; generalize a.eval = ρ at *; simp [execOp, e113, go_sem]) rfl (Below.refl _ _) hK
        refine StepAll.cons ?_ ?_
        · intro a wx hn hr hb K hK
          have ec := evc a
          have e9 : a.eval (.tmp 9) = .pointer (some ⟨w1.heap.size, 0, none⟩) := (hr 9 (by decide)).trans rfl
          have c0 := bcl hb kD0
          exact rel_run (v := .agg #[.slice adD fd16.length capD]) (by clear hn hr hK; generalize a.eval = ρ at *; simp [execOp, e9, c0, go_sem]) rfl (Below.refl _ _) hK
        refine StepAll.cons ?_ ?_
        · intro a wx hn hr hb K hK
          have ec := evc a
          have e115 : a.eval (.tmp 115) = .agg #[.slice adD fd16.length capD] := hn 37 (by decide)
          have ef : a.eval (.func 50) = .func (.func 50) #[] #[] := rfl
          exact rel_call (by clear hn hr hK; generalize a.eval = ρ at *; simp [execOp, ec, e115, cf50, ef, go_sem]) ((drop16_calls 3 (rises_of (by decide)) (HCD.out.later hb) (by decide)).mono (fun e w2 h => by obtain ⟨v2, h1, h2, _, h3⟩ := h; exact ⟨_, h1, ⟨v2, rfl, h2⟩, h3⟩)) hK
        refine StepAll.cons ?_ ?_
        · intro a wx hn hr hb K hK
          have ec := evc a
          obtain ⟨u116, e116, i116⟩ : ∃ u, a.eval (.tmp 116) = .agg #[u] ∧ CaAt wx u (kDrop fd16 3) := hn 38 (by decide)
          have ef : a.eval (.func 59) = .func (.func 59) #[] #[] := rfl
          exact rel_call (by clear hn hr hK; generalize a.eval = ρ at *; simp [execOp, e116, cf59, ef, go_sem]) (keys_calls i116 (by decide)) hK
        refine StepAll.cons ?_ ?_
        · intro a wx hn hr hb K hK
          have ec := evc a
          exact rel_run (v := .slice (some ⟨wx.heap.size, 0, none⟩) 3 3) (w' := wx.alloc (.cells #[.int .i64 12, .int .i64 14, .int .i64 15] 3 (0, 0))) (by clear hn hr hK; generalize a.eval = ρ at *; simp [execOp, ec, go_sem]) ⟨_, _, rfl, ints_lit [12, 14, 15] rfl⟩ ((Below.refl _ _).alloc (Nat.le_refl _) _) hK
        refine StepAll.cons ?_ ?_
        · intro a wx hn hr hb K hK
          have ec := evc a
          obtain ⟨ad117, cp117, e117, i117⟩ := (show NsAt wx (a.eval (.tmp 117)) (kKeys (kDrop fd16 3)) from hn 39 (by decide)).ex
          obtain ⟨ad118, cp118, e118, i118⟩ := (show NsAt wx (a.eval (.tmp 118)) [12, 14, 15] from hn 40 (by decide)).ex
          have ef : a.eval (.func 44) = .func (.func 44) #[] #[] := rfl
          exact rel_call (by clear hn hr hK; generalize a.eval = ρ at *; simp [execOp, e117, e118, cf44, ef, go_sem]) ((same_calls (c1 := cp117) (c2 := cp118) i117 i118 rfl rfl (by decide) (by decide)).mono (fun e w2 h => ⟨.bool true, h.1.trans (by rw [show decide (((kKeys (kDrop fd16 3)) : List Int) = [12, 14, 15]) = true from by decide]), rfl, h.2⟩)) hK
        refine StepAll.cons ?_ ?_
        · intro a wx hn hr hb K hK
          have ec := evc a
          have e114 : a.eval (.tmp 114) = .bool true := hn 36 (by decide)
          have e119 : a.eval (.tmp 119) = .bool true := hn 41 (by decide)
          exact rel_run (v := .bool true) (by clear hn hr hK; generalize a.eval = ρ at *; simp [execOp, ec, e114, e119, go_sem]) rfl (Below.refl _ _) hK
        refine StepAll.cons ?_ ?_
        · intro a wx hn hr hb K hK
          have ec := evc a
          have e120 : a.eval (.tmp 120) = .bool true := hn 42 (by decide)
          exact rel_run (v := .bool true) (by clear hn hr hK; generalize a.eval = ρ at *; simp [execOp, e120, go_sem]) rfl (Below.refl _ _) hK
        refine StepAll.cons ?_ ?_
        · intro a wx hn hr hb K hK
          have ec := evc a
          have e9 : a.eval (.tmp 9) = .pointer (some ⟨w1.heap.size, 0, none⟩) := (hr 9 (by decide)).trans rfl
          have c0 := bcl hb kD0
          exact rel_run (v := .agg #[.slice adD fd16.length capD]) (by clear hn hr hK; generalize a.eval = ρ at *; simp [execOp, e9, c0, go_sem]) rfl (Below.refl _ _) hK
        refine StepAll.cons ?_ ?_
        · intro a wx hn hr hb K hK
          have ec := evc a
          have e122 : a.eval (.tmp 122) = .agg #[.slice adD fd16.length capD] := hn 44 (by decide)
          have ef : a.eval (.func 50) = .func (.func 50) #[] #[] := rfl
          exact rel_call (by clear hn hr hK; generalize a.eval = ρ at *; simp [execOp, ec, e122, cf50, ef, go_sem]) ((drop16_calls 9 (rises_of (by decide)) (HCD.out.later hb) (by decide)).mono (fun e w2 h => by obtain ⟨v2, h1, h2, _, h3⟩ := h; exact ⟨_, h1, ⟨v2, rfl, h2⟩, h3⟩)) hK
        refine StepAll.cons ?_ ?_
        · intro a wx hn hr hb K hK
          have ec := evc a
          obtain ⟨u123, e123, i123⟩ : ∃ u, a.eval (.tmp 123) = .agg #[u] ∧ CaAt wx u (kDrop fd16 9) := hn 45 (by decide)
          have ef : a.eval (.func 59) = .func (.func 59) #[] #[] := rfl
          exact rel_call (by clear hn hr hK; generalize a.eval = ρ at *; simp [execOp, e123, cf59, ef, go_sem]) (keys_calls i123 (by decide)) hK
        refine StepAll.cons ?_ ?_
        · intro a wx hn hr hb K hK
          have ec := evc a
          have e9 : a.eval (.tmp 9) = .pointer (some ⟨w1.heap.size, 0, none⟩) := (hr 9 (by decide)).trans rfl
          have c0 := bcl hb kD0
          exact rel_run (v := .agg #[.slice adD fd16.length capD]) (by clear hn hr hK; generalize a.eval = ρ at *; simp [execOp, e9, c0, go_sem]) rfl (Below.refl _ _) hK
        refine StepAll.cons ?_ ?_
        · intro a wx hn hr hb K hK
          have ec := evc a
          have e125 : a.eval (.tmp 125) = .agg #[.slice adD fd16.length capD] := hn 47 (by decide)
          have ef : a.eval (.func 59) = .func (.func 59) #[] #[] := rfl
          exact rel_call (by clear hn hr hK; generalize a.eval = ρ at *; simp [execOp, e125, cf59, ef, go_sem]) (keys_calls (HCD.out.later hb) (by decide)) hK
        refine StepAll.cons ?_ ?_
        · intro a wx hn hr hb K hK
          have ec := evc a
          obtain ⟨ad124, cp124, e124, i124⟩ := (show NsAt wx (a.eval (.tmp 124)) (kKeys (kDrop fd16 9)) from hn 46 (by decide)).ex
          obtain ⟨ad126, cp126, e126, i126⟩ := (show NsAt wx (a.eval (.tmp 126)) (kKeys (fd16)) from hn 48 (by decide)).ex
          have ef : a.eval (.func 44) = .func (.func 44) #[] #[] := rfl
          exact rel_call (by clear hn hr hK; generalize a.eval = ρ at *; simp [execOp, e124, e126, cf44, ef, go_sem]) ((same_calls (c1 := cp124) (c2 := cp126) i124 i126 rfl rfl (by decide) (by decide)).mono (fun e w2 h => ⟨.bool true, h.1.trans (by rw [show decide (((kKeys (kDrop fd16 9)) : List Int) = (kKeys (fd16))) = true from by decide]), rfl, h.2⟩)) hK
        refine StepAll.cons ?_ ?_
        · intro a wx hn hr hb K hK
          have ec := evc a
          have e121 : a.eval (.tmp 121) = .bool true := hn 43 (by decide)
          have e127 : a.eval (.tmp 127) = .bool true := hn 49 (by decide)
          exact rel_run (v := .bool true) (by clear hn hr hK; generalize a.eval = ρ at *; simp [execOp, ec, e121, e127, go_sem]) rfl (Below.refl _ _) hK
        refine StepAll.cons ?_ ?_
        · intro a wx hn hr hb K hK
          have ec := evc a
          have e128 : a.eval (.tmp 128) = .bool true := hn 50 (by decide)
          exact rel_run (v := .bool true) (by clear hn hr hK; generalize a.eval = ρ at *; simp [execOp, e128, go_sem]) rfl (Below.refl _ _) hK
        refine StepAll.cons ?_ ?_
        · intro a wx hn hr hb K hK
          have ec := evc a
          have e17 : a.eval (.tmp 17) = .pointer (some ⟨w5.heap.size, 0, none⟩) := (hr 17 (by decide)).trans rfl
          have c0 := bcl hb kG0
          exact rel_run (v := .agg #[.slice adG fd16.length capG]) (by clear hn hr hK; generalize a.eval = ρ at *; simp [execOp, e17, c0, go_sem]) rfl (Below.refl _ _) hK
        refine StepAll.cons ?_ ?_
        · intro a wx hn hr hb K hK
          have ec := evc a
          have e130 : a.eval (.tmp 130) = .agg #[.slice adG fd16.length capG] := hn 52 (by decide)
          have ef : a.eval (.func 59) = .func (.func 59) #[] #[] := rfl
          exact rel_call (by clear hn hr hK; generalize a.eval = ρ at *; simp [execOp, e130, cf59, ef, go_sem]) (keys_calls (HCG.out.later hb) (by decide)) hK
        refine StepAll.cons ?_ ?_
        · intro a wx hn hr hb K hK
          have ec := evc a
          have e9 : a.eval (.tmp 9) = .pointer (some ⟨w1.heap.size, 0, none⟩) := (hr 9 (by decide)).trans rfl
          have c0 := bcl hb kD0
          exact rel_run (v := .agg #[.slice adD fd16.length capD]) (by clear hn hr hK; generalize a.eval = ρ at *; simp [execOp, e9, c0, go_sem]) rfl (Below.refl _ _) hK
        refine StepAll.cons ?_ ?_
        · intro a wx hn hr hb K hK
          have ec := evc a
          have e132 : a.eval (.tmp 132) = .agg #[.slice adD fd16.length capD] := hn 54 (by decide)
          have ef : a.eval (.func 59) = .func (.func 59) #[] #[] := rfl
          exact rel_call (by clear hn hr hK; generalize a.eval = ρ at *; simp [execOp, e132, cf59, ef, go_sem]) (keys_calls (HCD.out.later hb) (by decide)) hK
        refine StepAll.cons ?_ ?_
        · intro a wx hn hr hb K hK
          have ec := evc a
          obtain ⟨ad131, cp131, e131, i131⟩ := (show NsAt wx (a.eval (.tmp 131)) (kKeys (fd16)) from hn 53 (by decide)).ex
          obtain ⟨ad133, cp133, e133, i133⟩ := (show NsAt wx (a.eval (.tmp 133)) (kKeys (fd16)) from hn 55 (by decide)).ex
          have ef : a.eval (.func 44) = .func (.func 44) #[] #[] := rfl
          exact rel_call (by clear hn hr hK; generalize a.eval = ρ at *; simp [execOp, e131, e133, cf44, ef, go_sem]) ((same_calls (c1 := cp131) (c2 := cp133) i131 i133 rfl rfl (by decide) (by decide)).mono (fun e w2 h => ⟨.bool true, h.1.trans (by rw [show decide (((kKeys (fd16)) : List Int) = (kKeys (fd16))) = true from by decide]), rfl, h.2⟩)) hK
        refine StepAll.cons ?_ ?_
        · intro a wx hn hr hb K hK
          have ec := evc a
          have e129 : a.eval (.tmp 129) = .bool true := hn 51 (by decide)
          have e134 : a.eval (.tmp 134) = .bool true := hn 56 (by decide)
          exact rel_run (v := .bool true) (by clear hn hr hK; generalize a.eval = ρ at *; simp [execOp, ec, e129, e134, go_sem]) rfl (Below.refl _ _) hK
        refine StepAll.cons ?_ ?_
        · intro a wx hn hr hb K hK
          have ec := evc a
          have e135 : a.eval (.tmp 135) = .bool true := hn 57 (by decide)
          exact rel_run (v := .bool true) (by clear hn hr hK; generalize a.eval = ρ at *; simp [execOp, e135, go_sem]) rfl (Below.refl _ _) hK
        refine StepAll.cons ?_ ?_
        · intro a wx hn hr hb K hK
          have ec := evc a
          have e18 : a.eval (.tmp 18) = .pointer (some ⟨w5.heap.size + 1, 0, none⟩) := (hr 18 (by decide)).trans rfl
          exact rel_run (v := .pointer (some ⟨w5.heap.size + 1, 1, none⟩)) (by clear hn hr hK; generalize a.eval = ρ at *; simp [execOp, e18, go_sem]) rfl (Below.refl _ _) hK
        refine StepAll.cons ?_ ?_
        · intro a wx hn hr hb K hK
          have ec := evc a
          have e137 : a.eval (.tmp 137) = .pointer (some ⟨w5.heap.size + 1, 1, none⟩) := hn 59 (by decide)
          have c1 := bcl hb kL1
          exact rel_run (v := .int .i64 9) (by clear hn hr hK; generalize a.eval = ρ at *; simp [execOp, e137, c1, go_sem]) rfl (Below.refl _ _) hK
        refine StepAll.cons ?_ ?_
        · intro a wx hn hr hb K hK
          have ec := evc a
          have e138 : a.eval (.tmp 138) = .int .i64 9 := hn 60 (by decide)
          exact rel_run (v := .bool true) (by clear hn hr hK; generalize a.eval = ρ at *; simp [execOp, ec, e138, go_sem]) rfl (Below.refl _ _) hK
        refine StepAll.cons ?_ ?_
        · intro a wx hn hr hb K hK
          have ec := evc a
          have e136 : a.eval (.tmp 136) = .bool true := hn 58 (by decide)
          have e139 : a.eval (.tmp 139) = .bool true := hn 61 (by decide)
          exact rel_run (v := .bool true) (by clear hn hr hK; generalize a.eval = ρ at *; simp [execOp, ec, e136, e139, go_sem]) rfl (Below.refl _ _) hK
        refine StepAll.cons ?_ ?_
        · intro a wx hn hr hb K hK
          have ec := evc a
          have e140 : a.eval (.tmp 140) = .bool true := hn 62 (by decide)
          exact rel_run (v := .bool true) (by clear hn hr hK; generalize a.eval = ρ at *; simp [execOp, e140, go_sem]) rfl (Below.refl _ _) hK
        refine StepAll.cons ?_ ?_
        · intro a wx hn hr hb K hK
          have ec := evc a
          have e19 : a.eval (.tmp 19) = .bool true := (hr 19 (by decide)).trans rfl
          exact rel_run (v := .bool true) (by clear hn hr hK; generalize a.eval = ρ at *; simp [execOp, e19, go_sem]) rfl (Below.refl _ _) hK
        refine StepAll.cons ?_ ?_
        · intro a wx hn hr hb K hK
          have ec := evc a
          have e141 : a.eval (.tmp 141) = .bool true := hn 63 (by decide)
          have e142 : a.eval (.tmp 142) = .bool true := hn 64 (by decide)
          exact rel_run (v := .bool true) (by clear hn hr hK; generalize a.eval = ρ at *; simp [execOp, ec, e141, e142, go_sem]) rfl (Below.refl _ _) hK
        refine StepAll.cons ?_ ?_
        · intro a wx hn hr hb K hK
          have ec := evc a
          have e143 : a.eval (.tmp 143) = .bool true := hn 65 (by decide)
          exact rel_run (v := .bool true) (by clear hn hr hK; generalize a.eval = ρ at *; simp [execOp, e143, go_sem]) rfl (Below.refl _ _) hK
        exact trivial
      intro f w9 hv hb
      have e0 : f 0 = .bool true := hv 66 (by decide)
      simp only [patchG, Nat.reduceAdd, Nat.reduceLeDiff, Nat.reduceBEq, BEq.rfl, decide_true, decide_false, Bool.or_true, Bool.or_false, cond_true, cond_false, e0]
      go_wp2_with fail
      go_ret
      exact ⟨rfl, (H.out.still hb).below⟩
end Go.Proofs.Ytbaliaodioflfaa
