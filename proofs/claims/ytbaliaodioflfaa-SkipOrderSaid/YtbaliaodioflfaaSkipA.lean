/-
  Walks through layer 16: where an epoch is, and what is got. For every cache that rises.
-/
import Derived.Test.YtbaliaodioflfaaSkipP
import Derived.Test.YtbaliaodioflfaaHd2
namespace Go.Proofs.Ytbaliaodioflfaa
open Go.RowKit

def En.cells (e : En) : List Value := [.int .i64 e.ep, .int .i64 e.key, .int .u64 e.nx, .int .u64 e.bt]

/-- So many entries lie there. -/
def EnAt (w : World) (a : Option Addr) (es : List En) : Prop :=
  ∀ (i : Nat) (e : En), es[i]? = some e → ∃ g o, a = some ⟨g, o, none⟩ ∧ ∀ (j : Nat) (v : Value), e.cells[j]? = some v → w.cell? ⟨g, o + i * 4 + j, none⟩ = some v
theorem EnAt.later {w w' : World} {a : Option Addr} {es : List En} (h : EnAt w a es) (hb : Below w.heap.size w w') : EnAt w' a es := fun i e hi => by
  obtain ⟨g, o, ha, hc⟩ := h i e hi
  exact ⟨g, o, ha, fun j v hj => (hb.cell (World.block_lt_of_cell? w _ (hc j v hj))).trans (hc j v hj)⟩
theorem EnAt.nil {w : World} {a : Option Addr} : EnAt w a [] := fun i e hi => by simp at hi

def cmpE (a n : Int) : Int := if a < n then -1 else if n < a then 1 else 0

set_option maxHeartbeats 1000000 in
theorem cmp_calls (a k x y n : Int) (w : World) :
    Calls Try.prog 106 #[.agg #[.int .i64 a, .int .i64 k, .int .u64 x, .int .u64 y], .int .i64 n] w fun e w' => e = .returned (.int .i64 (cmpE a n)) ∧ Below w.heap.size w w' := by
  go_enter Try.func106, Try.ntmps106
  by_cases h1 : a < n
  · have d1 : decide (a < n) = true := by simpa using h1
    have e : cmpE a n = -1 := by unfold cmpE; rw [if_pos h1]
    rw [e]
    clear e h1
    go_wp2_with fail
    go_ret
    exact ⟨rfl, (Below.refl _ _).alloc (Nat.le_refl _) _⟩
  · have d1 : decide (a < n) = false := by simpa using h1
    by_cases h2 : n < a
    · have d2 : decide (n < a) = true := by simpa using h2
      have e : cmpE a n = 1 := by unfold cmpE; rw [if_neg h1, if_pos h2]
      rw [e]
      clear e h1 h2
      go_wp2_with fail
      go_ret
      exact ⟨rfl, (Below.refl _ _).alloc (Nat.le_refl _) _⟩
    · have d2 : decide (n < a) = false := by simpa using h2
      have e : cmpE a n = 0 := by unfold cmpE; rw [if_neg h1, if_neg h2]
      rw [e]
      clear e h1 h2
      go_wp2_with fail
      go_ret
      exact ⟨rfl, (Below.refl _ _).alloc (Nat.le_refl _) _⟩

theorem lowOf_eq {n : Int} : ∀ {es : List En} {p : Nat}, p ≤ es.length → (∀ k e, k < p → es[k]? = some e → e.ep < n) → (∀ e, es[p]? = some e → ¬ e.ep < n) → lowOf n es = p
  | [], p, hp, _, _ => by simp at hp; simp [lowOf, hp]
  | e :: es, 0, _, _, h2 => by simp only [lowOf]; rw [if_neg (h2 e rfl)]
  | e :: es, p + 1, hp, h1, h2 => by
    simp only [lowOf]
    rw [if_pos (h1 0 e (by omega) rfl), lowOf_eq (p := p) (by simpa using hp) (fun k e' hk he => h1 (k + 1) e' (by omega) (by simpa using he)) (fun e' he => h2 e' (by simpa using he))]
theorem Rises.lt {es : List En} (h : Rises es) {i j : Nat} {x y : En} (hi : es[i]? = some x) (hj : es[j]? = some y) (hij : i < j) : x.ep < y.ep := by
  obtain ⟨h1, rfl⟩ := List.getElem?_eq_some_iff.1 hi
  obtain ⟨h2, rfl⟩ := List.getElem?_eq_some_iff.1 hj
  exact (List.pairwise_iff_getElem.1 h) i j h1 h2 hij

set_option maxRecDepth 100000 in
set_option maxHeartbeats 8000000 in
theorem search_calls {es : List En} {ad : Option Addr} {len cap : Nat} {w : World} (n : Int) (hr : Rises es) (h : EnAt w ad es) (hl : len = es.length) (hm : len ≤ 1000) :
    Calls Try.prog 105 #[.slice ad len cap, .int .i64 n, .func (.func 106) #[] #[]] w fun e w' => e = .returned (.tuple #[.int .i64 (lowOf n es), .bool (isAt es n)]) ∧ Below w.heap.size w w' := by
  have HR := hid hr
  have H := hid h
  have HL := hid hl
  clear hr h hl
  go_enter Try.func105, Try.ntmps105
  go_wp2_with fail
  go_loopw [9, 10] (fun i j wr => ∃ p q : Nat, p ≤ q ∧ q ≤ len ∧ i = .int .i64 p ∧ j = .int .i64 q ∧ Below w.heap.size w wr ∧ Hid (∀ k e, k < p → es[k]? = some e → e.ep < n) ∧ Hid (∀ k e, q ≤ k → es[k]? = some e → n ≤ e.ep)) (fun i j _ => (intOf j - intOf i).toNat)
  case atStart => exact ⟨0, len, Nat.zero_le _, Nat.le_refl _, rfl, rfl, Below.refl _ _, hid fun k e hk => by omega, hid fun k e hk he => by
    have := (List.getElem?_eq_some_iff.1 he).1
    rw [← HL.out] at this
    omega⟩
  case round =>
    obtain ⟨p, q, hpq, hq, rfl, rfl, hb, h1, h2⟩ := hrel
    obtain ⟨wo, hwo⟩ : ∃ wo : World, wo = wr := ⟨_, rfl⟩
    rw [← hwo] at hb ⊢
    clear hwo wr
    by_cases hlt : p < q
    · have hd1 : decide ((p : Int) < (q : Int)) = true := by simp; omega
      have hd1' : decide (p < q) = true := by simp; omega
      obtain ⟨m, hme, hm1, hm2⟩ : ∃ m : Nat, ((p : Int) + (q : Int)) / 2 = (m : Int) ∧ p ≤ m ∧ m < q := ⟨(p + q) / 2, by omega, by omega, by omega⟩
      have hml : m < es.length := by rw [← HL.out]; omega
      obtain ⟨⟨a, k, x, y⟩, he⟩ : ∃ e, es[m]? = some e := ⟨es[m], List.getElem?_eq_getElem hml⟩
      obtain ⟨g, o, rfl, hc⟩ := (H.out.later hb) m _ he
      have d0 := hc 0 _ rfl
      have d1 := hc 1 _ rfl
      have d2 := hc 2 _ rfl
      have d3 := hc 3 _ rfl
      rw [Nat.add_zero] at d0
      have He := hid he
      have zm0 : (0 : Int) ≤ (m : Int) := by omega
      have zm1 : (m : Int) < (len : Int) := by omega
      have zm2 : m < len := by omega
      clear hc he hml
      go_wp2_with fail
      refine (cmp_calls a k x y n wo).mono ?_
      by_cases ha : a < n
      · rw [show cmpE a n = -1 by unfold cmpE; rw [if_pos ha]]
        rintro e w2 ⟨rfl, hb2⟩
        have HB := hid (hb.trans (hb2.mono hb.size))
        have H1 : Hid (∀ k e, k < m + 1 → es[k]? = some e → e.ep < n) := hid fun k e hk he => by
          by_cases hkm : k = m
          · subst hkm; rw [He.out] at he; cases he; exact ha
          · have := HR.out.lt he He.out (by omega)
            exact Int.lt_trans this ha
        clear hb hb2 d0 d1 d2 d3 h1 ha
        go_wp2_with fail
        go_roundw
        case rel => exact ⟨m + 1, q, by omega, by omega, by go_num, rfl, HB.out, H1, h2⟩
        case measure => simp [intOf]; omega
      · have H2 : Hid (∀ k e, m ≤ k → es[k]? = some e → n ≤ e.ep) := hid fun k e hk he => by
          by_cases hkm : k = m
          · subst hkm; rw [He.out] at he; cases he; exact Int.not_lt.1 ha
          · have := HR.out.lt He.out he (by omega)
            have h2 := Int.not_lt.1 ha
            exact Int.le_of_lt (Int.lt_of_le_of_lt h2 this)
        have hc : cmpE a n = 1 ∨ cmpE a n = 0 := by
          unfold cmpE
          rw [if_neg ha]
          by_cases h : n < a
          · rw [if_pos h]; exact .inl rfl
          · rw [if_neg h]; exact .inr rfl
        clear h2 ha
        rcases hc with hc | hc
        all_goals
          rw [hc]
          rintro e w2 ⟨rfl, hb2⟩
          have HB := hid (hb.trans (hb2.mono hb.size))
          clear hb hb2 d0 d1 d2 d3 hc
          go_wp2_with fail
          go_roundw
          case rel => exact ⟨p, m, by omega, by omega, rfl, by go_num, HB.out, h1, H2⟩
          case measure => simp [intOf]; omega
    · obtain rfl : p = q := by omega
      have hd1 : decide ((p : Int) < (p : Int)) = false := by simp
      have EL : Hid (lowOf n es = p) := hid (lowOf_eq (by rw [← HL.out]; exact hq) h1.out fun e he => Int.not_lt.2 (h2.out p e (Nat.le_refl _) he))
      clear h1 h2 hlt
      by_cases hpl : p < len
      · have hd2 : decide ((p : Int) < (len : Int)) = true := by simp; omega
        have hml : p < es.length := by rw [← HL.out]; omega
        obtain ⟨⟨a, k, x, y⟩, he⟩ : ∃ e, es[p]? = some e := ⟨es[p], List.getElem?_eq_getElem hml⟩
        obtain ⟨g, o, rfl, hc⟩ := (H.out.later hb) p _ he
        have d0 := hc 0 _ rfl
        have d1 := hc 1 _ rfl
        have d2 := hc 2 _ rfl
        have d3 := hc 3 _ rfl
        rw [Nat.add_zero] at d0
        have He := hid he
        have zm0 : (0 : Int) ≤ (p : Int) := by omega
        clear hc he hml
        go_wp2_with fail
        refine (cmp_calls a k x y n wo).mono ?_
        by_cases ha : a = n
        · have hc : cmpE a n = 0 := by unfold cmpE; rw [if_neg (by omega), if_neg (by omega)]
          have IS : Hid (isAt es n = true) := hid (by unfold isAt; rw [EL.out, He.out]; exact decide_eq_true (by simp [ha]))
          rw [hc]
          rintro e w2 ⟨rfl, hb2⟩
          clear d0 d1 d2 d3 hc ha
          go_wp2_with fail
          go_ret2
          exact ⟨by rw [EL.out, IS.out]; rfl, hb.trans (hb2.mono hb.size)⟩
        · have hc : cmpE a n = 1 ∨ cmpE a n = -1 := by
            unfold cmpE
            by_cases h : a < n
            · rw [if_pos h]; exact .inr rfl
            · rw [if_neg h, if_pos (by omega)]; exact .inl rfl
          have IS : Hid (isAt es n = false) := hid (by unfold isAt; rw [EL.out, He.out]; exact decide_eq_false (by simp [ha]))
          clear ha
          rcases hc with hc | hc
          all_goals
            rw [hc]
            rintro e w2 ⟨rfl, hb2⟩
            clear d0 d1 d2 d3 hc
            go_wp2_with fail
            go_ret2
            exact ⟨by rw [EL.out, IS.out]; rfl, hb.trans (hb2.mono hb.size)⟩
      · have hd2 : decide ((p : Int) < (len : Int)) = false := by simp; omega
        have hd2' : decide (p < len) = false := by simp; omega
        have IS : Hid (isAt es n = false) := hid (by unfold isAt; rw [EL.out, List.getElem?_eq_none (by rw [← HL.out]; omega)]; rfl)
        clear hpl
        go_wp2_with fail
        go_ret2
        exact ⟨by rw [EL.out, IS.out]; rfl, hb⟩

set_option maxHeartbeats 2000000 in
theorem place_calls {es : List En} {ad : Option Addr} {len cap : Nat} {w : World} (n : Int) (hr : Rises es) (h : EnAt w ad es) (hl : len = es.length) (hm : len ≤ 1000) :
    Calls Try.prog 88 #[.agg #[.slice ad len cap], .int .i64 n] w fun e w' => e = .returned (.tuple #[.int .i64 (lowOf n es), .bool (isAt es n)]) ∧ Below w.heap.size w w' := by
  have H := hid h
  have HR := hid hr
  have HL := hid hl
  clear h hr hl
  go_enter Try.func88, Try.ntmps88
  go_wp2_with fail
  refine (search_calls n HR.out (H.out.later ((Below.refl _ _).alloc (Nat.le_refl _) _)) HL.out hm).mono ?_
  rintro e w1 ⟨rfl, hb⟩
  go_wp2_with fail
  go_ret2
  exact ⟨rfl, ((Below.refl _ _).alloc (Nat.le_refl _) _).trans (hb.mono (by simp))⟩
end Go.Proofs.Ytbaliaodioflfaa
