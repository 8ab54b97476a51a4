/-
  Contracts of layer 16 for every thing that the caller holds; a slice of entries into which is written. For every cache.
-/
import Derived.Test.YtbaliaodioflfaaSkipT
import Derived.Test.YtbaliaodioflfaaHold
namespace Go.Proofs.Ytbaliaodioflfaa
open Go.RowKit

section
variable {W w w' : World} {Rs : List Res} {es es' : List En} {v : Value} {ga gk gx gy : Int} {b : Bool}
theorem put16_h (a k x y : Int) (hk : kPut es ⟨a, k, x, y⟩ = (es', ⟨ga, gk, gx, gy⟩, b)) (hr : Rises es) (hm : es.length ≤ 900) (hc : CaAt w v es) :
    Calls Try.prog 52 #[.agg #[v], .agg #[.int .i64 a, .int .i64 k, .int .u64 x, .int .u64 y]] w fun e' w' => ∃ x : Gh, e' = .returned (.tuple #[.agg #[.slice x.1 es'.length x.2], .agg #[.int .i64 ga, .int .i64 gk, .int .u64 gx, .int .u64 gy], .bool b]) ∧ ∀ W Xs, Hd W w Xs → Hd W w' (CaR (.slice x.1 es'.length x.2) es' :: Xs) := by
  refine (put16_calls a k x y hr hc hm).mono ?_
  rw [hk]
  rintro e w' ⟨v', rfl, h1, h2, h3⟩
  obtain ⟨ad, cap, rfl, h4, h0⟩ := h1.ex
  exact ⟨(ad, cap), rfl, fun W Xs h => h.addCa h3 h4 h0 h2⟩
theorem drop16_h (n : Int) (hk : kDrop es n = es') (hr : Rises es) (hm : es.length ≤ 900) (hc : CaAt w v es) :
    Calls Try.prog 50 #[.agg #[v], .int .i64 n] w fun e' w' => ∃ x : Gh, e' = .returned (.agg #[.slice x.1 es'.length x.2]) ∧ ∀ W Xs, Hd W w Xs → Hd W w' (CaR (.slice x.1 es'.length x.2) es' :: Xs) := by
  refine (drop16_calls n hr hc hm).mono ?_
  rw [hk]
  rintro e w' ⟨v', rfl, h1, h2, h3⟩
  obtain ⟨ad, cap, rfl, h4, h0⟩ := h1.ex
  exact ⟨(ad, cap), rfl, fun W Xs h => h.addCa h3 h4 h0 h2⟩
theorem get16_h (n : Int) (hk : kGet es n = (⟨ga, gk, gx, gy⟩, b)) (hr : Rises es) (hm : es.length ≤ 900) (hc : CaAt w v es) :
    Calls Try.prog 55 #[.agg #[v], .int .i64 n] w fun e w' => ∃ _x : Gh, e = .returned (.tuple #[.agg #[.int .i64 ga, .int .i64 gk, .int .u64 gx, .int .u64 gy], .bool b]) ∧ ∀ W Xs, Hd W w Xs → Hd W w' ([] ++ Xs) := by
  refine (get16_calls n hr hc (by omega)).mono ?_
  rw [hk]
  exact fun e w' h' => ⟨default, h'.1, fun W Xs h => h.still h'.2⟩

theorem rsame_yes {ad bd : Option Addr} {la lb ca cb : Nat} (h : EnAt w ad es) (h2 : EnAt w bd es) (hl : la = es.length) (hl2 : lb = es.length) (hm : la ≤ 900) :
    Calls Try.prog 57 #[.slice ad la ca, .slice bd lb cb] w fun e w' => e = .returned (.bool true) ∧ Below w.heap.size w w' :=
  (rsame_calls h h2 hl hl2 hm (by omega)).mono fun e w2 h => ⟨h.1.trans (by rw [show decide (es = es) = true from decide_eq_true rfl]), h.2⟩

/-- A slice of entries of the call's own, of which only the room is known. -/
def CaW (v : Value) (n : Nat) : Res := fun f =>
  n = 0 ∨ ∃ g o cap cur E, v = .slice (some ⟨g, o, none⟩) n cap ∧ o + n * 4 ≤ (cur : Array Value).size ∧ f = fun k => if k = g then some (.cells cur E (0, 0)) else none
theorem Hd.imp {A B : Res} (h : ∀ f, A f → B f) (k : Hd W w (A :: Rs)) : Hd W w (B :: Rs) := by
  obtain ⟨hb, f, hA, hr⟩ := k
  exact ⟨hb, f, h f hA, hr⟩
theorem Hd.caw (h : Hd W w (CaR v es :: Rs)) : Hd W w (CaW v es.length :: Rs) := by
  refine Hd.imp (fun f hf => ?_) h
  rcases hf with ⟨_, rfl, _⟩ | ⟨g, o, cap, cur, E, rfl, hc, rfl⟩
  · exact .inl rfl
  · rcases Nat.eq_zero_or_pos es.length with h0 | h0
    · exact .inl h0
    · refine .inr ⟨g, o, cap, cur, E, rfl, ?_, rfl⟩
      have := hc (es.length - 1) (es[es.length - 1]'(by omega)) (List.getElem?_eq_getElem _) 3 _ rfl
      have := (Array.getElem?_eq_some_iff.1 this).1
      omega
theorem Hd.back {R : Res} (i : Nat) (h : Hd W w (R :: Rs)) {Ss : List Res} (e : R :: Ss.eraseIdx i = R :: Rs) (hi : Ss[i]? = some R := by rfl) : Hd W w Ss := by
  have key : ∀ (l : List Res) (i : Nat), l[i]? = some R → (R :: l.eraseIdx i).Perm l := by
    intro l
    induction l with
    | nil => intro i h; simp at h
    | cons x l ih =>
      intro i h
      cases i with
      | zero =>
        simp only [List.getElem?_cons_zero, Option.some.injEq] at h
        subst h
        exact List.Perm.refl _
      | succ i => exact (List.Perm.swap _ _ _).trans ((ih i (by simpa using h)).cons x)
  rw [← e] at h
  exact Hd.perm (key Ss i hi) h
theorem Hd.caw_at {n i : Nat} (h : Hd W w (CaW v n :: Rs)) (hi : i < n) : ∃ g o cap x, v = .slice (some ⟨g, o, none⟩) n cap ∧ w.cell? ⟨g, o + i * 4 + 1, none⟩ = some x ∧ (∀ q, w.frozen? ⟨g, q, none⟩ = false) ∧ g < w.heap.size ∧
    ∀ y, Hd W (w.setCell ⟨g, o + i * 4 + 1, none⟩ y) (CaW v n :: Rs) := by
  obtain ⟨f, hR, hf, hlt, hshut⟩ := h.open
  rcases hR with h0 | ⟨g, o, cap, cur, E, rfl, hc, rfl⟩
  · omega
  · have hg := hf g (.cells cur E (0, 0)) (by simp)
    refine ⟨g, o, cap, cur[o + i * 4 + 1]'(by omega), rfl, by rw [cell_of_heap hg]; exact Array.getElem?_eq_getElem _, frozen_of_heap hg, (Array.getElem?_eq_some_iff.1 hg).1, fun y => ?_⟩
    refine hshut _ _ (fun k => if k = g then some (.cells (cur.setIfInBounds (o + i * 4 + 1) y) E (0, 0)) else none) (.inr ⟨g, o, cap, _, E, rfl, by simpa using hc, rfl⟩) (fun k o2 hk => ?_) (fun k hk => ?_) rfl rfl rfl (by simp) (fun k hk hk2 => ?_)
    · dsimp only at hk
      split at hk
      · rename_i e; subst e
        rw [heap_setCell_same _ _ _ _ _ _ hg]; exact hk
      · cases hk
    · split at hk
      · rename_i e; subst e; exact .inl (by simp)
      · exact absurd rfl hk
    · refine heap_setCell_other _ _ _ _ fun e => ?_
      have : k = g := e
      subst this
      simp at hk2
end

set_option maxRecDepth 100000 in
set_option maxHeartbeats 8000000 in
theorem refs_own {es : List En} {v : Value} {w : World} (h : CaAt w v es) (hm : es.length ≤ 900) :
    Calls Try.prog 58 #[.agg #[v]] w fun e w' => ∃ u, e = .returned u ∧ LaAt w' u es ∧ NewSl w w' u ∧ Below w.heap.size w w' := by
  obtain ⟨ad, cap, rfl, hat, _⟩ := h.ex
  have H := hid hat
  obtain ⟨len, hl⟩ : ∃ len, len = es.length := ⟨_, rfl⟩
  rw [← hl] at hm ⊢
  have HL := hid hl
  have H0 := hid ((Hd.boxk (o := .cells #[.slice ad len cap] 85 (0, 0)) w.heap.size rfl (Hd.refl w)).row_newS (E := 98) (size := 4))
  clear h hl hat
  go_enter Try.func58, Try.ntmps58
  go_wp2_with fail
  go_loopw [3, 4] (fun u i wr => ∃ (j g c : Nat), j ≤ len ∧ i = .int .i64 j ∧ u = .slice (some ⟨g, 0, none⟩) j c ∧ Hid (Hd w wr [RowR 98 4 (.slice (some ⟨g, 0, none⟩) j c) j (ensC (es.take j)), Blk w.heap.size (.cells #[.slice ad len cap] 85 (0, 0))])) (fun _ i _ => len - (intOf i).toNat)
  case atStart => exact ⟨0, _, _, Nat.zero_le _, rfl, rfl, hid (by have h := H0.out; rw [show (w.alloc (.cells #[.slice ad len cap] 85 (0, 0))).heap.size = w.heap.size + 1 by simp] at h; exact h)⟩
  case round =>
    clear H0
    obtain ⟨j, g, c, hj, rfl, rfl, HB⟩ := hrel
    obtain ⟨wo, hwo⟩ : ∃ wo : World, wo = wr := ⟨_, rfl⟩
    rw [← hwo] at HB ⊢
    clear hwo wr
    have hk := HB.out.drop.blk
    have b0 := (cell_of_heap hk 0).trans (show _ = some (.slice ad len cap) from rfl)
    clear hk
    by_cases hlt : j < len
    · have hd1 : decide ((j : Int) < (len : Int)) = true := by simp; omega
      have hd1' : decide (j < len) = true := by simp; omega
      have hml : j < es.length := by rw [← HL.out]; omega
      obtain ⟨⟨a, k, x, y⟩, he⟩ : ∃ e, es[j]? = some e := ⟨es[j], List.getElem?_eq_getElem hml⟩
      obtain ⟨g2, o, rfl, hc⟩ := (H.out.later HB.out.below) j _ he
      have d0 := hc 0 _ rfl
      have d1 := hc 1 _ rfl
      have d2 := hc 2 _ rfl
      have d3 := hc 3 _ rfl
      rw [Nat.add_zero] at d0
      have HT : Hid (es.take (j + 1) = es.take j ++ [⟨a, k, x, y⟩]) := hid (by rw [List.take_add_one, he]; rfl)
      have zm0 : (0 : Int) ≤ (j : Int) := by omega
      have zm1 : (j : Int) < (len : Int) := by omega
      clear hc he hml
      go_wp2_with fail
      refine (one_calls a k x y _).mono ?_
      rintro e w2 ⟨rfl, hb⟩
      have H2 := hid (HB.out.still hb)
      clear hb d0 d1 d2 d3 b0
      go_wp2_with (at_builtin; refine append_en ⟨a, k, x, y⟩ Try.underlying86 info_RE rfl (.tmp 13) (.tmp 20) rfl rfl H2.out (by rfl) (by rfl) (by omega) ?_; intro g3 c3 w3 h3; have H3 := hid h3; clear h3)
      go_roundw
      case rel => exact ⟨j + 1, g3, c3, by omega, by go_num, rfl, hid (by rw [HT.out]; exact H3.out)⟩
      case measure => simp [intOf]; omega
    · obtain rfl : j = len := by omega
      have hd1 : decide ((j : Int) < (j : Int)) = false := by simp
      clear hlt
      go_wp2_with fail
      go_ret
      have h2 := HB.out
      rw [List.take_of_length_le (by rw [HL.out]; exact Nat.le_refl _)] at h2
      refine ⟨.slice (some ⟨g, 0, none⟩) j c, rfl, ⟨_, c, by rw [← HL.out], Hd.row_en HL.out h2, fun e => by cases e⟩, h2.row_newSl, h2.below⟩
end Go.Proofs.Ytbaliaodioflfaa
