/-
  Walks through the document's layer 3: Public, Agree, Is. For every store of the document's, and every names.
-/
import Derived.Test.YtfhpgcgiogmlgaaSame
import Derived.Test.YtfhpgcgiogmlgaaDh
namespace Go.Proofs.Ytfhpgcgiogmlgaa
open Go.RowKit

set_option maxHeartbeats 1000000 in
theorem rpub_calls {W w : World} {Rs : List Res} {b : Nat} {L : List T} {m : Int} (x : Int) (h : Hd W w (RSto b L m :: Rs)) :
    Calls Try.prog 33 #[.pointer (some ⟨b, 0, none⟩), .int .i64 x] w fun e w' =>
      e = .returned (.tuple #[.int .i64 (put m L (pubT x)).1, .int .i64 (put m L (pubT x)).2.1]) ∧ Hd W w' (RSto b (put m L (pubT x)).2.2 m :: Rs) := by
  have hp := rput_calls 3 ⟨#[]⟩ 0 x 0 0 h
  obtain ⟨r1, r2, L2, hq⟩ : ∃ r1 r2 L2, put m L (pubT x) = (r1, r2, L2) := ⟨_, _, _, rfl⟩
  rw [show (⟨3, ⟨#[]⟩, 0, x, 0, 0⟩ : T) = pubT x from rfl] at hp
  rw [hq] at hp ⊢
  have Hp := hid hp
  clear hq hp h
  go_enter Try.func33, Try.ntmps33
  go_wp2_with fail
  refine Hp.out.mono ?_
  rintro e w1 ⟨rfl, h1⟩
  have H1 := hid h1
  clear h1
  go_wp2_with fail
  go_ret2
  exact ⟨rfl, H1.out⟩

theorem k3_there {L : List T} {x : Int} (h : (getT L x).k = 3) : 1 ≤ x ∧ x ≤ L.length := by
  by_cases h1 : x < 1
  · rw [(getT_out (L := L) (.inl h1)).1] at h; cases h
  by_cases h2 : (L.length : Int) < x
  · rw [(getT_out (L := L) (.inr h2)).1] at h; cases h
  omega

set_option maxHeartbeats 1000000 in
theorem ris_calls {b : Nat} {L : List T} {m : Int} {a : Option Addr} {cap : Nat} (x : Int) {w : World} (h : RStoAt w b L m a cap) :
    Calls Try.prog 37 #[.pointer (some ⟨b, 0, none⟩), .int .i64 x] w fun e w' => e = .returned (.bool ((getT L x).k == 3)) ∧ Below w.heap.size w w' := by
  have Hs := hid h
  clear h
  by_cases hin : 1 ≤ x ∧ x ≤ L.length
  · obtain ⟨t, ht⟩ := at_of hin.1 hin.2
    have Ht := hid ht
    rw [ht.getT.1]
    clear ht
    obtain ⟨k, s, n, a1, b1, c1⟩ := t
    go_enter Try.func37, Try.ntmps37
    go_wp2_with fail
    refine (rget_calls x Hs.out).mono ?_
    rw [Ht.out.getT.1, Ht.out.getT.2]
    simp only [T.val]
    rintro e w1 ⟨rfl, hb1⟩
    have Hb1 := hid hb1
    clear hb1
    go_wp2_with fail
    go_ret
    exact ⟨rfl, Hb1.out.trans (((Below.refl _ _).alloc (Nat.le_refl _) _).mono Hb1.out.size)⟩
  · have hz := getT_out (L := L) (x := x) (by omega)
    have Hz := hid hz
    rw [hz.1]
    clear hz
    go_enter Try.func37, Try.ntmps37
    go_wp2_with fail
    refine (rget_calls x Hs.out).mono ?_
    rw [Hz.out.1, Hz.out.2]
    simp only [T.val, zeroT]
    rintro e w1 ⟨rfl, hb1⟩
    have Hb1 := hid hb1
    clear hb1
    go_wp2_with fail
    go_ret
    exact ⟨rfl, Hb1.out.trans (((Below.refl _ _).alloc (Nat.le_refl _) _).mono Hb1.out.size)⟩

set_option maxHeartbeats 2000000 in
theorem ragree_calls {W w : World} {Rs : List Res} {b : Nat} {L : List T} {m : Int} (x y : Int) (h : Hd W w (RSto b L m :: Rs)) :
    Calls Try.prog 35 #[.pointer (some ⟨b, 0, none⟩), .int .i64 x, .int .i64 y] w fun e w' =>
      e = .returned (.tuple #[.int .i64 (agree m L x y).1, .int .i64 (agree m L x y).2.1]) ∧ Hd W w' (RSto b (agree m L x y).2.2 m :: Rs) := by
  obtain ⟨a, cap, hs⟩ := h.rsto
  have hl : L.length ≤ 1048576 := by have := hs.ok.m1; have := hs.ok.len; omega
  have l0 := hs.c0
  have Hs := hid hs
  have H := hid h
  clear hs h
  by_cases h1 : x < 1
  · have d1 : decide (x < 1) = true := by simpa using h1
    have e : agree m L x y = (0, 1, L) := by unfold agree; rw [if_neg (fun hh => by have := (getT_out (L := L) (.inl h1)).2; rw [this] at hh; exact Bool.noConfusion hh.1)]
    rw [e]
    clear e
    go_enter Try.func35, Try.ntmps35
    go_wp2_with fail
    go_ret2
    exact ⟨rfl, H.out⟩
  have d1 : decide (x < 1) = false := by simpa using h1
  by_cases h2 : (L.length : Int) < x
  · have d2 : decide ((L.length : Int) < x) = true := by simpa using h2
    have e : agree m L x y = (0, 1, L) := by unfold agree; rw [if_neg (fun hh => by have := (getT_out (L := L) (.inr h2)).2; rw [this] at hh; exact Bool.noConfusion hh.1)]
    rw [e]
    clear e
    go_enter Try.func35, Try.ntmps35
    go_wp2_with fail
    go_ret2
    exact ⟨rfl, H.out⟩
  have d2 : decide ((L.length : Int) < x) = false := by simpa using h2
  have hx : In L x := ⟨by omega, by omega⟩
  by_cases hk : (getT L y).k = 3
  case neg =>
    have e : agree m L x y = (0, 1, L) := by unfold agree; rw [if_neg (fun hh => hk hh.2)]
    rw [e]
    have hk' : ((getT L y).k == 3) = false := by simpa using hk
    have Hk := hid hk'
    clear e hk hk' hx
    go_enter Try.func35, Try.ntmps35
    go_wp2_with fail
    refine (ris_calls y Hs.out).mono ?_
    rw [Hk.out]
    rintro e w1 ⟨rfl, hb1⟩
    have Hb1 := hid hb1
    clear hb1
    go_wp2_with fail
    go_ret2
    exact ⟨rfl, H.out.still Hb1.out⟩
  obtain ⟨y1, y2⟩ := k3_there hk
  obtain ⟨j, hj, rfl⟩ := nat_of_range (x := y) (n := L.length) y1 y2
  obtain ⟨t, ht⟩ : ∃ t, L[j]? = some t := ⟨L[j]'hj, List.getElem?_eq_getElem _⟩
  have hgt := (getT_in ht).1
  obtain ⟨g, rfl, hgl, hc⟩ := Hs.out.cl j t ht
  have c3 : w.cell? ⟨g, j * 6 + 3, none⟩ = some (.int .i64 t.a) := hc 3 _ rfl
  obtain ⟨z, hz⟩ : ∃ z, z = t.a := ⟨_, rfl⟩
  rw [← hz] at c3
  have hk' : ((getT L ((j : Int) + 1)).k == 3) = true := by simpa using hk
  have Hk := hid hk'
  have e : agree m L x ((j : Int) + 1) = put m L (shaT (min x z) (max x z)) := by unfold agree; rw [if_pos ⟨hx.getB, hk⟩, hgt, hz]
  obtain ⟨lo, hi, hlo⟩ : ∃ lo hi, (lo = min x z ∧ hi = max x z) := ⟨_, _, rfl, rfl⟩
  rw [← hlo.1, ← hlo.2] at e
  obtain ⟨r1, r2, L2, hq⟩ : ∃ r1 r2 L2, put m L (shaT lo hi) = (r1, r2, L2) := ⟨_, _, _, rfl⟩
  rw [e, hq]
  have Hp : Hid (∀ w', Hd W w' (RSto b L m :: Rs) → Calls Try.prog 19 #[.pointer (some ⟨b, 0, none⟩), .agg #[.int .i64 4, .string ⟨#[]⟩, .int .u64 0, .int .i64 lo, .int .i64 hi, .int .i64 0]] w' fun e w'' => e = .returned (.tuple #[.int .i64 r1, .int .i64 r2]) ∧ Hd W w'' (RSto b L2 m :: Rs)) := hid fun w' h' => by
    have := rput_calls 4 ⟨#[]⟩ 0 lo hi 0 h'
    rw [show (⟨4, ⟨#[]⟩, 0, lo, hi, 0⟩ : T) = shaT lo hi from rfl, hq] at this
    exact this
  have C3 := hid c3
  have L0 := hid l0
  have Hgl := hid hgl
  have hbl := Hs.out.lt
  have Hbl := hid hbl
  have hj0 : (0 : Int) ≤ (j : Int) := by omega
  have hj1 : (j : Int) < (L.length : Int) := by omega
  clear e hx hq hc ht hgt hz hk hk' c3 hgl hbl y1 y2
  rcases Int.lt_trichotomy z x with hg | rfl | hg
  · obtain ⟨rfl, rfl⟩ : lo = z ∧ hi = x := by omega
    have q1 : decide (lo < hi) = true := by simpa using hg
    have q2 : decide (hi < lo) = false := by simp; omega
    have q3 : decide (hi ≤ lo) = false := by simp; omega
    clear hlo
    go_enter Try.func35, Try.ntmps35
    go_wp2_with fail
    refine (ris_calls _ Hs.out).mono ?_
    rw [Hk.out]
    rintro e w1 ⟨rfl, hb1⟩
    have Hb1 := hid hb1
    have m0 := (hb1.cell (p := ⟨b, 0, none⟩) Hbl.out).trans L0.out
    have m3 := (hb1.cell (p := ⟨g, j * 6 + 3, none⟩) Hgl.out).trans C3.out
    clear hb1 l0
    go_wp2_with fail
    refine (Hp.out _ (H.out.still Hb1.out)).mono ?_
    rintro e w3 ⟨rfl, h3⟩
    have H3 := hid h3
    clear h3
    go_wp2_with fail
    go_ret2
    exact ⟨rfl, H3.out⟩
  · obtain ⟨rfl, rfl⟩ : lo = z ∧ hi = z := by omega
    clear hlo
    go_enter Try.func35, Try.ntmps35
    go_wp2_with fail
    refine (ris_calls _ Hs.out).mono ?_
    rw [Hk.out]
    rintro e w1 ⟨rfl, hb1⟩
    have Hb1 := hid hb1
    have m0 := (hb1.cell (p := ⟨b, 0, none⟩) Hbl.out).trans L0.out
    have m3 := (hb1.cell (p := ⟨g, j * 6 + 3, none⟩) Hgl.out).trans C3.out
    clear hb1 l0
    go_wp2_with fail
    refine (Hp.out _ (H.out.still Hb1.out)).mono ?_
    rintro e w3 ⟨rfl, h3⟩
    have H3 := hid h3
    clear h3
    go_wp2_with fail
    go_ret2
    exact ⟨rfl, H3.out⟩
  · obtain ⟨rfl, rfl⟩ : lo = x ∧ hi = z := by omega
    have q1 : decide (lo < hi) = true := by simpa using hg
    have q2 : decide (hi < lo) = false := by simp; omega
    have q3 : decide (hi ≤ lo) = false := by simp; omega
    clear hlo
    go_enter Try.func35, Try.ntmps35
    go_wp2_with fail
    refine (ris_calls _ Hs.out).mono ?_
    rw [Hk.out]
    rintro e w1 ⟨rfl, hb1⟩
    have Hb1 := hid hb1
    have m0 := (hb1.cell (p := ⟨b, 0, none⟩) Hbl.out).trans L0.out
    have m3 := (hb1.cell (p := ⟨g, j * 6 + 3, none⟩) Hgl.out).trans C3.out
    clear hb1 l0
    go_wp2_with fail
    refine (Hp.out _ (H.out.still Hb1.out)).mono ?_
    rintro e w3 ⟨rfl, h3⟩
    have H3 := hid h3
    clear h3
    go_wp2_with fail
    go_ret2
    exact ⟨rfl, H3.out⟩
end Go.Proofs.Ytfhpgcgiogmlgaa
