/-
  What All and Can answer, and what the document's answer, over a list that came in. For every store and every list.
-/
import Derived.Test.YtbaliaodioflfaaKnowF
namespace Go.Proofs.Ytbaliaodioflfaa
open Go.RowKit

/-- A slice's length is at most its capacity. -/
theorem open_cap {H : Type} {enc : TypeId × Value → H} {w : World} {base : Nat} {spare : Nat → Bool} {held : Bool} {t e : TypeId} {fuel : Nat} {a : Option Addr} {len cap : Nat} {x : DataW H × List MemPlace} (ht : Try.prog.underlying t = some (.slice e)) (hc : Try.prog.cellsOf e = 1)
    (h : DataW.trod enc Try.prog w base spare held fuel t [.slice a len cap] = some x) : len ≤ cap ∧ cap ≤ maxLen ∧ (a = none → len = 0 ∧ cap = 0) := by
  rcases Deep.open_slice1 ht hc h with ⟨hcs, _⟩ | ⟨a', l, c, m, n, V, D, Pl, hcs, _, hl, hm, hmm, _, hx⟩
  · simp only [List.cons.injEq, Value.slice.injEq, and_true] at hcs
    obtain ⟨rfl, rfl, rfl⟩ := hcs
    exact ⟨Nat.le_refl _, Nat.zero_le _, fun _ => ⟨rfl, rfl⟩⟩
  · simp only [List.cons.injEq, Value.slice.injEq, and_true] at hcs
    obtain ⟨rfl, rfl, rfl⟩ := hcs
    exact ⟨hl, hm, fun e => (by cases e)⟩

theorem ksIn_nums {w : World} {a : Option Addr} {zs : List Int} (n : Nat) (h : NumsIn .i64 w a zs) : KsIn w a (zs.take n) := fun i z hi => by
  have hz : zs[i]? = some z := by
    rw [List.getElem?_take] at hi
    split at hi
    · exact hi
    · cases hi
  obtain ⟨_, _, g, o, ha, hc⟩ := h i z hz
  exact ⟨g, o, ha, hc⟩

section
variable {W w : World} {b : Nat} {L : List T} {m : Int} {ad : Option Addr} {n cap : Nat} {ks : List Int} {Rs : List Res}
open Classical in
noncomputable def canB (L : List T) (dh kem : Bool) (ks : List Int) (x : Int) : Bool × Int :=
  if ∀ x ∈ ks, 1 ≤ x ∧ x ≤ (L.length : Int) then (if 1 ≤ x ∧ x ≤ (L.length : Int) then (decide (Der L dh kem (fun x => x ∈ ks) x), 0) else (false, 5)) else (false, 1)
theorem kn_all (dh kem : Bool) (hn : n = ks.length) (hm : n ≤ maxLen) (hk : KsIn w ad ks) (hin : ∀ x ∈ ks, 1 ≤ x ∧ x ≤ L.length) (h : Hd W w (Sto b L m :: Rs)) :
    Calls Try.prog 40 #[.pointer (some ⟨b, 0, none⟩), .slice ad n cap, .agg #[.bool dh, .bool kem]] w fun e w' => ∃ u, e = .returned (.tuple #[u, .int .i64 0]) ∧
      Hd W w' (RowR 3 1 u (allOf L dh kem (fun x => x ∈ ks)).length (nums .i64 (allOf L dh kem (fun x => x ∈ ks))) :: Sto b L m :: Rs) := by
  obtain ⟨lb, db, mb, lc, dc, hs⟩ := h.sto
  refine (know_all dh kem ad n cap ks hn hm hk hs).mono ?_
  rintro e w' (⟨_, u, rfl, hd⟩ | ⟨hno, _⟩)
  · exact ⟨u, rfl, h.join hd⟩
  · exact absurd hin hno
theorem kn_all_bad (dh kem : Bool) (hn : n = ks.length) (hm : n ≤ maxLen) (hk : KsIn w ad ks) (hin : ¬ ∀ x ∈ ks, 1 ≤ x ∧ x ≤ L.length) (h : Hd W w (Sto b L m :: Rs)) :
    Calls Try.prog 40 #[.pointer (some ⟨b, 0, none⟩), .slice ad n cap, .agg #[.bool dh, .bool kem]] w fun e w' => e = .returned (.tuple #[.slice none 0 0, .int .i64 1]) ∧ Hd W w' (Sto b L m :: Rs) := by
  obtain ⟨lb, db, mb, lc, dc, hs⟩ := h.sto
  refine (know_all dh kem ad n cap ks hn hm hk hs).mono ?_
  rintro e w' (⟨hno, _⟩ | ⟨_, rfl, hb⟩)
  · exact absurd hno hin
  · exact ⟨rfl, h.still hb⟩
theorem kn_can (dh kem : Bool) (x : Int) (hn : n = ks.length) (hm : n ≤ maxLen) (hk : KsIn w ad ks) (h : Hd W w (Sto b L m :: Rs)) :
    Calls Try.prog 42 #[.pointer (some ⟨b, 0, none⟩), .slice ad n cap, .agg #[.bool dh, .bool kem], .int .i64 x] w fun e w' => e = .returned (.tuple #[.bool (canB L dh kem ks x).1, .int .i64 (canB L dh kem ks x).2]) ∧ Hd W w' (Sto b L m :: Rs) := by
  obtain ⟨lb, db, mb, lc, dc, hs⟩ := h.sto
  refine (know_can dh kem ad n cap ks x hn hm hk hs).mono ?_
  rintro e w' ⟨hb, (⟨h1, h2, rfl⟩ | ⟨h1, h2, rfl⟩ | ⟨h1, rfl⟩)⟩
  · exact ⟨by unfold canB; rw [if_pos h1, if_pos h2], h.still hb⟩
  · exact ⟨by unfold canB; rw [if_pos h1, if_neg h2], h.still hb⟩
  · exact ⟨by unfold canB; rw [if_neg h1], h.still hb⟩
theorem rn_all (dh kem : Bool) (hn : n = ks.length) (hm : n ≤ maxLen) (hk : KsIn w ad ks) (hin : ∀ x ∈ ks, 1 ≤ x ∧ x ≤ L.length) (h : Hd W w (RSto b L m :: Rs)) :
    Calls Try.prog 41 #[.pointer (some ⟨b, 0, none⟩), .slice ad n cap, .bool dh, .bool kem] w fun e w' => ∃ u, e = .returned (.tuple #[u, .int .i64 0]) ∧
      Hd W w' (RowR 3 1 u (allOf L dh kem (fun x => x ∈ ks)).length (nums .i64 (allOf L dh kem (fun x => x ∈ ks))) :: RSto b L m :: Rs) := by
  obtain ⟨a, rc, hs⟩ := h.rsto
  refine (ref_all dh kem ad n cap ks hn hm hk hs).mono ?_
  rintro e w' (⟨_, u, rfl, hd⟩ | ⟨hno, _⟩)
  · exact ⟨u, rfl, h.join hd⟩
  · exact absurd hin hno
theorem rn_all_bad (dh kem : Bool) (hn : n = ks.length) (hm : n ≤ maxLen) (hk : KsIn w ad ks) (hin : ¬ ∀ x ∈ ks, 1 ≤ x ∧ x ≤ L.length) (h : Hd W w (RSto b L m :: Rs)) :
    Calls Try.prog 41 #[.pointer (some ⟨b, 0, none⟩), .slice ad n cap, .bool dh, .bool kem] w fun e w' => e = .returned (.tuple #[.slice none 0 0, .int .i64 1]) ∧ Hd W w' (RSto b L m :: Rs) := by
  obtain ⟨a, rc, hs⟩ := h.rsto
  refine (ref_all dh kem ad n cap ks hn hm hk hs).mono ?_
  rintro e w' (⟨hno, _⟩ | ⟨_, rfl, hb⟩)
  · exact absurd hno hin
  · exact ⟨rfl, h.still hb⟩
theorem rn_can (dh kem : Bool) (x : Int) (hn : n = ks.length) (hm : n ≤ maxLen) (hk : KsIn w ad ks) (h : Hd W w (RSto b L m :: Rs)) :
    Calls Try.prog 43 #[.pointer (some ⟨b, 0, none⟩), .slice ad n cap, .bool dh, .bool kem, .int .i64 x] w fun e w' => e = .returned (.tuple #[.bool (canB L dh kem ks x).1, .int .i64 (canB L dh kem ks x).2]) ∧ Hd W w' (RSto b L m :: Rs) := by
  obtain ⟨a, rc, hs⟩ := h.rsto
  refine (ref_can dh kem ad n cap ks x hn hm hk hs).mono ?_
  rintro e w' ⟨hb, (⟨h1, h2, rfl⟩ | ⟨h1, h2, rfl⟩ | ⟨h1, rfl⟩)⟩
  · exact ⟨by unfold canB; rw [if_pos h1, if_pos h2], h.still hb⟩
  · exact ⟨by unfold canB; rw [if_pos h1, if_neg h2], h.still hb⟩
  · exact ⟨by unfold canB; rw [if_neg h1], h.still hb⟩
end
end Go.Proofs.Ytbaliaodioflfaa
