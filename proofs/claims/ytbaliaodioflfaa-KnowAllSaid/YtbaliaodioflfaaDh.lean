/-
  Walks through layer 3: Public, Agree, Is of the program. For every store and every names.
-/
import Derived.Test.YtbaliaodioflfaaStores
namespace Go.Proofs.Ytbaliaodioflfaa
open Go.RowKit

/-- What two share. -/
def agree (m : Int) (L : List T) (x y : Int) : Int × Int × List T :=
  if getB L x = true ∧ (getT L y).k = 3 then put m L (shaT (min x (getT L y).a) (max x (getT L y).a)) else (0, 1, L)

set_option maxHeartbeats 1000000 in
theorem pub_calls {W w : World} {Rs : List Res} {b : Nat} {L : List T} {m : Int} (x : Int) (h : Hd W w (Sto b L m :: Rs)) :
    Calls Try.prog 48 #[.pointer (some ⟨b, 0, none⟩), .int .i64 x] w fun e w' =>
      e = .returned (.tuple #[.int .i64 (put m L (pubT x)).1, .int .i64 (put m L (pubT x)).2.1]) ∧ Hd W w' (Sto b (put m L (pubT x)).2.2 m :: Rs) := by
  have hp := put_calls 3 ⟨#[]⟩ 0 x 0 0 h
  obtain ⟨r1, r2, L2, hq⟩ : ∃ r1 r2 L2, put m L (pubT x) = (r1, r2, L2) := ⟨_, _, _, rfl⟩
  rw [show (⟨3, ⟨#[]⟩, 0, x, 0, 0⟩ : T) = pubT x from rfl] at hp
  rw [hq] at hp ⊢
  have Hp := hid hp
  clear hq hp h
  go_enter Try.func48, Try.ntmps48
  go_wp2_with fail
  refine Hp.out.mono ?_
  rintro e w1 ⟨rfl, h1⟩
  have H1 := hid h1
  clear h1
  go_wp2_with fail
  go_ret2
  exact ⟨rfl, H1.out⟩

set_option maxHeartbeats 2000000 in
theorem agree_calls {W w : World} {Rs : List Res} {b : Nat} {L : List T} {m : Int} (x y : Int) (h : Hd W w (Sto b L m :: Rs)) :
    Calls Try.prog 49 #[.pointer (some ⟨b, 0, none⟩), .int .i64 x, .int .i64 y] w fun e w' =>
      e = .returned (.tuple #[.int .i64 (agree m L x y).1, .int .i64 (agree m L x y).2.1]) ∧ Hd W w' (Sto b (agree m L x y).2.2 m :: Rs) := by
  obtain ⟨lb, db, mb, lc, dc, hs⟩ := h.sto
  have Hs := hid hs
  have H := hid h
  clear hs h
  obtain ⟨k, s, n, a, b', c, ht⟩ : ∃ k s n a b c, getT L y = ⟨k, s, n, a, b, c⟩ := ⟨_, _, _, _, _, _, rfl⟩
  obtain ⟨k2, s2, n2, a2, b2, c2, ht2⟩ : ∃ k s n a b c, getT L x = ⟨k, s, n, a, b, c⟩ := ⟨_, _, _, _, _, _, rfl⟩
  by_cases hx : getB L x = true
  case neg =>
    have hx' : getB L x = false := by simpa using hx
    have e : agree m L x y = (0, 1, L) := by unfold agree; rw [if_neg (fun hh => hx hh.1)]
    rw [e]
    have Ht := hid ht
    have Ht2 := hid ht2
    have Hx := hid hx'
    clear e ht ht2 hx hx'
    go_enter Try.func49, Try.ntmps49
    go_wp2_with fail
    refine (get_calls x Hs.out).mono ?_
    rw [Ht2.out, Hx.out]
    simp only [T.val]
    rintro e w1 ⟨rfl, hb1⟩
    have H1 := hid (H.out.still hb1)
    have Hs1 := hid (Hs.out.later hb1)
    clear hb1
    go_wp2_with fail
    have hal : ∀ o, Below w1.heap.size w1 (w1.alloc o) := fun o => (Below.refl _ _).alloc (Nat.le_refl _) _
    have Hal := hid hal
    clear hal
    refine (get_calls y (Hs1.out.later (Hal.out _))).mono ?_
    rw [Ht.out]
    simp only [T.val]
    rintro e w2 ⟨rfl, hb2⟩
    have H2 := hid ((H1.out.still (Hal.out _)).still hb2)
    clear hb2
    go_wp2_with fail
    go_ret2
    exact ⟨rfl, H2.out.still ((Below.refl _ _).alloc (Nat.le_refl _) _)⟩
  by_cases hk : k = 3
  case neg =>
    have hk' : (k != 3) = true := by rw [bne_iff_ne]; exact hk
    have e : agree m L x y = (0, 1, L) := by unfold agree; rw [if_neg (fun hh => hk (by have := hh.2; rw [ht] at this; exact this))]
    rw [e]
    have Ht := hid ht
    have Ht2 := hid ht2
    have Hx := hid hx
    clear e ht ht2 hx hk
    go_enter Try.func49, Try.ntmps49
    go_wp2_with fail
    refine (get_calls x Hs.out).mono ?_
    rw [Ht2.out, Hx.out]
    simp only [T.val]
    rintro e w1 ⟨rfl, hb1⟩
    have H1 := hid (H.out.still hb1)
    have Hs1 := hid (Hs.out.later hb1)
    clear hb1
    go_wp2_with fail
    have hal : ∀ o, Below w1.heap.size w1 (w1.alloc o) := fun o => (Below.refl _ _).alloc (Nat.le_refl _) _
    have Hal := hid hal
    clear hal
    refine (get_calls y (Hs1.out.later (Hal.out _))).mono ?_
    rw [Ht.out]
    simp only [T.val]
    rintro e w2 ⟨rfl, hb2⟩
    have H2 := hid ((H1.out.still (Hal.out _)).still hb2)
    clear hb2
    go_wp2_with fail
    go_ret2
    exact ⟨rfl, H2.out.still ((Below.refl _ _).alloc (Nat.le_refl _) _)⟩
  subst hk
  obtain ⟨lo, hi, hlo⟩ : ∃ lo hi, (lo = min x a ∧ hi = max x a) := ⟨_, _, rfl, rfl⟩
  have e : agree m L x y = put m L (shaT lo hi) := by unfold agree; rw [if_pos ⟨hx, by rw [ht]⟩, ht, hlo.1, hlo.2]
  obtain ⟨r1, r2, L2, hq⟩ : ∃ r1 r2 L2, put m L (shaT lo hi) = (r1, r2, L2) := ⟨_, _, _, rfl⟩
  rw [e, hq]
  have Hp : Hid (∀ w', Hd W w' (Sto b L m :: Rs) → Calls Try.prog 47 #[.pointer (some ⟨b, 0, none⟩), .agg #[.int .i64 4, .string ⟨#[]⟩, .int .u64 0, .int .i64 lo, .int .i64 hi, .int .i64 0]] w' fun e w'' => e = .returned (.tuple #[.int .i64 r1, .int .i64 r2]) ∧ Hd W w'' (Sto b L2 m :: Rs)) := hid fun w' h' => by
    have := put_calls 4 ⟨#[]⟩ 0 lo hi 0 h'
    rw [show (⟨4, ⟨#[]⟩, 0, lo, hi, 0⟩ : T) = shaT lo hi from rfl, hq] at this
    exact this
  have Ht := hid ht
  have Ht2 := hid ht2
  have Hx := hid hx
  clear e ht ht2 hx hq
  by_cases hg : a < x
  · obtain ⟨rfl, rfl⟩ : lo = a ∧ hi = x := by omega
    have hd : decide (lo < hi) = true := by simpa using hg
    clear hlo hg
    go_enter Try.func49, Try.ntmps49
    go_wp2_with fail
    refine (get_calls hi Hs.out).mono ?_
    rw [Ht2.out, Hx.out]
    simp only [T.val]
    rintro e w1 ⟨rfl, hb1⟩
    have H1 := hid (H.out.still hb1)
    have Hs1 := hid (Hs.out.later hb1)
    clear hb1
    go_wp2_with fail
    have hal : ∀ o, Below w1.heap.size w1 (w1.alloc o) := fun o => (Below.refl _ _).alloc (Nat.le_refl _) _
    have Hal := hid hal
    clear hal
    refine (get_calls y (Hs1.out.later (Hal.out _))).mono ?_
    rw [Ht.out]
    simp only [T.val]
    rintro e w2 ⟨rfl, hb2⟩
    have H2 := hid ((H1.out.still (Hal.out _)).still hb2)
    clear hb2
    go_wp2_with fail
    refine (Hp.out _ ?_).mono ?_
    · exact H2.out.still (((Below.refl _ _).alloc (Nat.le_refl _) _).alloc (by simp) _)
    rintro e w3 ⟨rfl, h3⟩
    have H3 := hid h3
    clear h3
    go_wp2_with fail
    go_ret2
    exact ⟨rfl, H3.out⟩
  · obtain ⟨rfl, rfl⟩ : lo = x ∧ hi = a := by omega
    have hd : decide (hi < lo) = false := by simpa using hg
    clear hlo hg
    go_enter Try.func49, Try.ntmps49
    go_wp2_with fail
    refine (get_calls lo Hs.out).mono ?_
    rw [Ht2.out, Hx.out]
    simp only [T.val]
    rintro e w1 ⟨rfl, hb1⟩
    have H1 := hid (H.out.still hb1)
    have Hs1 := hid (Hs.out.later hb1)
    clear hb1
    go_wp2_with fail
    have hal : ∀ o, Below w1.heap.size w1 (w1.alloc o) := fun o => (Below.refl _ _).alloc (Nat.le_refl _) _
    have Hal := hid hal
    clear hal
    refine (get_calls y (Hs1.out.later (Hal.out _))).mono ?_
    rw [Ht.out]
    simp only [T.val]
    rintro e w2 ⟨rfl, hb2⟩
    have H2 := hid ((H1.out.still (Hal.out _)).still hb2)
    clear hb2
    go_wp2_with fail
    refine (Hp.out _ ?_).mono ?_
    · exact H2.out.still (((Below.refl _ _).alloc (Nat.le_refl _) _).alloc (by simp) _)
    rintro e w3 ⟨rfl, h3⟩
    have H3 := hid h3
    clear h3
    go_wp2_with fail
    go_ret2
    exact ⟨rfl, H3.out⟩


end Go.Proofs.Ytbaliaodioflfaa
