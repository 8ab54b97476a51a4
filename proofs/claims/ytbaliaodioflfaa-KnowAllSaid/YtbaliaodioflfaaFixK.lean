/-
  Walks through what the statements share: fixed of layer 8. It takes nothing.
-/
import Derived.Test.YtbaliaodioflfaaKnowH
namespace Go.Proofs.Ytbaliaodioflfaa
open Go.RowKit

section
variable {W w : World} {b : Nat} {L : List T} {m : Int} {n : Nat} {Rs : List Res}
theorem ksIn_lit (ks : List Int) : KsIn (w.alloc (.cells (ints ks).toArray 3 (0, 0))) (some ⟨w.heap.size, 0, none⟩) ks := fun i z hi => ⟨_, _, rfl, by
  rw [Nat.zero_add, cell_of_heap (heap_at rfl)]
  simp [ints, hi]⟩
theorem all_lit (dh kem : Bool) (ks : List Int) {cells : Array Value} (hcl : cells = (ints ks).toArray) (hin : ∀ x ∈ ks, 1 ≤ x ∧ x ≤ L.length) (hn : n = ks.length) (hsm : ks.length ≤ maxLen) (h : Hd W w (Sto b L m :: Rs)) :
    Calls Try.prog 40 #[.pointer (some ⟨b, 0, none⟩), .slice (some ⟨w.heap.size, 0, none⟩) n n, .agg #[.bool dh, .bool kem]] (w.alloc (.cells cells 3 (0, 0))) fun e w' => ∃ u, e = .returned (.tuple #[u, .int .i64 0]) ∧
      Hd W w' (RowR 3 1 u (allOf L dh kem (fun x => x ∈ ks)).length (nums .i64 (allOf L dh kem (fun x => x ∈ ks))) :: Sto b L m :: Rs) := by
  subst hcl
  obtain ⟨lb, db, mb, lc, dc, hs⟩ := h.sto
  refine (know_all dh kem _ n n ks hn (by omega) (ksIn_lit ks) (hs.later ((Below.refl _ _).alloc (Nat.le_refl _) _))).mono ?_
  rintro e w' (⟨_, u, rfl, hd⟩ | ⟨hno, _⟩)
  · exact ⟨u, rfl, h.al.join hd⟩
  · exact absurd hin hno
theorem all_lit_bad (dh kem : Bool) (ks : List Int) {cells : Array Value} (hcl : cells = (ints ks).toArray) (hin : ¬ ∀ x ∈ ks, 1 ≤ x ∧ x ≤ L.length) (hn : n = ks.length) (hsm : ks.length ≤ maxLen) (h : Hd W w (Sto b L m :: Rs)) :
    Calls Try.prog 40 #[.pointer (some ⟨b, 0, none⟩), .slice (some ⟨w.heap.size, 0, none⟩) n n, .agg #[.bool dh, .bool kem]] (w.alloc (.cells cells 3 (0, 0))) fun e w' => e = .returned (.tuple #[.slice none 0 0, .int .i64 1]) ∧ Hd W w' (Sto b L m :: Rs) := by
  subst hcl
  obtain ⟨lb, db, mb, lc, dc, hs⟩ := h.sto
  refine (know_all dh kem _ n n ks hn (by omega) (ksIn_lit ks) (hs.later ((Below.refl _ _).alloc (Nat.le_refl _) _))).mono ?_
  rintro e w' (⟨hno, _⟩ | ⟨_, rfl, hb⟩)
  · exact absurd hno hin
  · exact ⟨rfl, h.al.still hb⟩
theorem can_lit (dh kem : Bool) (ks : List Int) (x : Int) {cells : Array Value} (hcl : cells = (ints ks).toArray) (hin : ∀ x ∈ ks, 1 ≤ x ∧ x ≤ L.length) (hx : 1 ≤ x ∧ x ≤ L.length) (hn : n = ks.length) (hsm : ks.length ≤ maxLen) (h : Hd W w (Sto b L m :: Rs)) :
    Calls Try.prog 42 #[.pointer (some ⟨b, 0, none⟩), .slice (some ⟨w.heap.size, 0, none⟩) n n, .agg #[.bool dh, .bool kem], .int .i64 x] (w.alloc (.cells cells 3 (0, 0))) fun e w' => ∃ p : Bool, e = .returned (.tuple #[.bool p, .int .i64 0]) ∧ (p = true ↔ Der L dh kem (fun x => x ∈ ks) x) ∧ Hd W w' (Sto b L m :: Rs) := by
  subst hcl
  obtain ⟨lb, db, mb, lc, dc, hs⟩ := h.sto
  refine (know_can dh kem _ n n ks x hn (by omega) (ksIn_lit ks) (hs.later ((Below.refl _ _).alloc (Nat.le_refl _) _))).mono ?_
  rintro e w' ⟨hb, (⟨_, _, rfl⟩ | ⟨_, hno, _⟩ | ⟨hno, _⟩)⟩
  · exact ⟨_, rfl, by simp, h.al.still hb⟩
  · exact absurd hx hno
  · exact absurd hin hno
theorem can_nil (dh kem : Bool) (x : Int) (hx : ¬ (1 ≤ x ∧ x ≤ L.length)) (h : Hd W w (Sto b L m :: Rs)) :
    Calls Try.prog 42 #[.pointer (some ⟨b, 0, none⟩), .slice none 0 0, .agg #[.bool dh, .bool kem], .int .i64 x] w fun e w' => e = .returned (.tuple #[.bool false, .int .i64 5]) ∧ Hd W w' (Sto b L m :: Rs) := by
  obtain ⟨lb, db, mb, lc, dc, hs⟩ := h.sto
  refine (know_can dh kem none 0 0 [] x rfl (Nat.zero_le _) (fun i z hi => by simp at hi) hs).mono ?_
  rintro e w' ⟨hb, (⟨_, hx2, _⟩ | ⟨_, _, rfl⟩ | ⟨hno, _⟩)⟩
  · exact absurd hx2 hx
  · exact ⟨rfl, h.still hb⟩
  · exact absurd (fun x hx => by simp at hx) hno
end

set_option maxRecDepth 100000 in
set_option maxHeartbeats 8000000 in
theorem fixed8_calls {W w : World} {Rs : List Res} (h : Hd W w Rs) :
    Calls Try.prog 45 #[] w fun e w' => e = .returned (.bool true) ∧ Hd W w' Rs := by
  have H := hid h
  clear h
  go_enter Try.func45, Try.ntmps45
  go_wp2_with fail
  refine (new_calls H.out (by decide) (by decide)).mono ?_
  rintro e w1 ⟨b, rfl, h1⟩
  clear H
  have H := hid h1
  clear h1
  go_wp2_with fail
  refine (put_calls _ _ _ _ _ _ H.out).mono ?_
  rw [show put 30 [] ⟨2, ⟨#[]⟩, 1, 0, 0, 0⟩ = (1, 0, [⟨2, ⟨#[]⟩, 1, 0, 0, 0⟩]) from by decide +kernel]
  rintro e w2 ⟨rfl, h1⟩
  clear H
  have H := hid h1
  clear h1
  go_wp2_with fail
  refine (put_calls _ _ _ _ _ _ H.out).mono ?_
  rw [show put 30 [⟨2, ⟨#[]⟩, 1, 0, 0, 0⟩] ⟨2, ⟨#[]⟩, 2, 0, 0, 0⟩ = (2, 0, [⟨2, ⟨#[]⟩, 1, 0, 0, 0⟩, ⟨2, ⟨#[]⟩, 2, 0, 0, 0⟩]) from by decide +kernel]
  rintro e w3 ⟨rfl, h1⟩
  clear H
  have H := hid h1
  clear h1
  go_wp2_with fail
  refine (pub_calls 1 H.out).mono ?_
  rw [show put 30 [⟨2, ⟨#[]⟩, 1, 0, 0, 0⟩, ⟨2, ⟨#[]⟩, 2, 0, 0, 0⟩] (pubT 1) = (3, 0, [⟨2, ⟨#[]⟩, 1, 0, 0, 0⟩, ⟨2, ⟨#[]⟩, 2, 0, 0, 0⟩, ⟨3, ⟨#[]⟩, 0, 1, 0, 0⟩]) from by decide +kernel]
  rintro e w4 ⟨rfl, h1⟩
  clear H
  have H := hid h1
  clear h1
  go_wp2_with fail
  refine (pub_calls 2 H.out).mono ?_
  rw [show put 30 [⟨2, ⟨#[]⟩, 1, 0, 0, 0⟩, ⟨2, ⟨#[]⟩, 2, 0, 0, 0⟩, ⟨3, ⟨#[]⟩, 0, 1, 0, 0⟩] (pubT 2) = (4, 0, [⟨2, ⟨#[]⟩, 1, 0, 0, 0⟩, ⟨2, ⟨#[]⟩, 2, 0, 0, 0⟩, ⟨3, ⟨#[]⟩, 0, 1, 0, 0⟩, ⟨3, ⟨#[]⟩, 0, 2, 0, 0⟩]) from by decide +kernel]
  rintro e w5 ⟨rfl, h1⟩
  clear H
  have H := hid h1
  clear h1
  go_wp2_with fail
  refine (agree_calls 1 4 H.out).mono ?_
  rw [show agree 30 [⟨2, ⟨#[]⟩, 1, 0, 0, 0⟩, ⟨2, ⟨#[]⟩, 2, 0, 0, 0⟩, ⟨3, ⟨#[]⟩, 0, 1, 0, 0⟩, ⟨3, ⟨#[]⟩, 0, 2, 0, 0⟩] 1 4 = (5, 0, [⟨2, ⟨#[]⟩, 1, 0, 0, 0⟩, ⟨2, ⟨#[]⟩, 2, 0, 0, 0⟩, ⟨3, ⟨#[]⟩, 0, 1, 0, 0⟩, ⟨3, ⟨#[]⟩, 0, 2, 0, 0⟩, ⟨4, ⟨#[]⟩, 0, 1, 2, 0⟩]) from by decide +kernel]
  rintro e w6 ⟨rfl, h1⟩
  clear H
  have H := hid h1
  clear h1
  have HG : Hid (Good ([⟨2, ⟨#[]⟩, 1, 0, 0, 0⟩, ⟨2, ⟨#[]⟩, 2, 0, 0, 0⟩, ⟨3, ⟨#[]⟩, 0, 1, 0, 0⟩, ⟨3, ⟨#[]⟩, 0, 2, 0, 0⟩, ⟨4, ⟨#[]⟩, 0, 1, 2, 0⟩] : List T)) := hid (by obtain ⟨_, _, _, _, _, hs⟩ := H.out.sto; exact hs.good)
  go_wp2_with fail
  refine (all_lit false false [3, 4] rfl (show ∀ x ∈ ([3, 4] : List Int), 1 ≤ x ∧ x ≤ (([⟨2, ⟨#[]⟩, 1, 0, 0, 0⟩, ⟨2, ⟨#[]⟩, 2, 0, 0, 0⟩, ⟨3, ⟨#[]⟩, 0, 1, 0, 0⟩, ⟨3, ⟨#[]⟩, 0, 2, 0, 0⟩, ⟨4, ⟨#[]⟩, 0, 1, 2, 0⟩] : List T).length : Int) from by decide) rfl (by decide) H.out).mono ?_
  rw [allOf_is (L := [⟨2, ⟨#[]⟩, 1, 0, 0, 0⟩, ⟨2, ⟨#[]⟩, 2, 0, 0, 0⟩, ⟨3, ⟨#[]⟩, 0, 1, 0, 0⟩, ⟨3, ⟨#[]⟩, 0, 2, 0, 0⟩, ⟨4, ⟨#[]⟩, 0, 1, 2, 0⟩]) (dh := false) (kem := false) (ks := [3, 4]) HG.out (show ∀ x ∈ ([3, 4] : List Int), 1 ≤ x ∧ x ≤ (([⟨2, ⟨#[]⟩, 1, 0, 0, 0⟩, ⟨2, ⟨#[]⟩, 2, 0, 0, 0⟩, ⟨3, ⟨#[]⟩, 0, 1, 0, 0⟩, ⟨3, ⟨#[]⟩, 0, 2, 0, 0⟩, ⟨4, ⟨#[]⟩, 0, 1, 2, 0⟩] : List T).length : Int) from by decide) 3 (by decide +kernel), show markedTo (reachM [⟨2, ⟨#[]⟩, 1, 0, 0, 0⟩, ⟨2, ⟨#[]⟩, 2, 0, 0, 0⟩, ⟨3, ⟨#[]⟩, 0, 1, 0, 0⟩, ⟨3, ⟨#[]⟩, 0, 2, 0, 0⟩, ⟨4, ⟨#[]⟩, 0, 1, 2, 0⟩] false false [3, 4] 3) (([⟨2, ⟨#[]⟩, 1, 0, 0, 0⟩, ⟨2, ⟨#[]⟩, 2, 0, 0, 0⟩, ⟨3, ⟨#[]⟩, 0, 1, 0, 0⟩, ⟨3, ⟨#[]⟩, 0, 2, 0, 0⟩, ⟨4, ⟨#[]⟩, 0, 1, 2, 0⟩] : List T).length + 1) = [3, 4] from by decide +kernel]
  rintro e w11 ⟨ra, rfl, h1⟩
  clear H
  have H := hid (h1.swap)
  clear h1
  go_wp2_with fail
  refine (all_lit true false [3, 4] rfl (show ∀ x ∈ ([3, 4] : List Int), 1 ≤ x ∧ x ≤ (([⟨2, ⟨#[]⟩, 1, 0, 0, 0⟩, ⟨2, ⟨#[]⟩, 2, 0, 0, 0⟩, ⟨3, ⟨#[]⟩, 0, 1, 0, 0⟩, ⟨3, ⟨#[]⟩, 0, 2, 0, 0⟩, ⟨4, ⟨#[]⟩, 0, 1, 2, 0⟩] : List T).length : Int) from by decide) rfl (by decide) H.out).mono ?_
  rw [allOf_is (L := [⟨2, ⟨#[]⟩, 1, 0, 0, 0⟩, ⟨2, ⟨#[]⟩, 2, 0, 0, 0⟩, ⟨3, ⟨#[]⟩, 0, 1, 0, 0⟩, ⟨3, ⟨#[]⟩, 0, 2, 0, 0⟩, ⟨4, ⟨#[]⟩, 0, 1, 2, 0⟩]) (dh := true) (kem := false) (ks := [3, 4]) HG.out (show ∀ x ∈ ([3, 4] : List Int), 1 ≤ x ∧ x ≤ (([⟨2, ⟨#[]⟩, 1, 0, 0, 0⟩, ⟨2, ⟨#[]⟩, 2, 0, 0, 0⟩, ⟨3, ⟨#[]⟩, 0, 1, 0, 0⟩, ⟨3, ⟨#[]⟩, 0, 2, 0, 0⟩, ⟨4, ⟨#[]⟩, 0, 1, 2, 0⟩] : List T).length : Int) from by decide) 3 (by decide +kernel), show markedTo (reachM [⟨2, ⟨#[]⟩, 1, 0, 0, 0⟩, ⟨2, ⟨#[]⟩, 2, 0, 0, 0⟩, ⟨3, ⟨#[]⟩, 0, 1, 0, 0⟩, ⟨3, ⟨#[]⟩, 0, 2, 0, 0⟩, ⟨4, ⟨#[]⟩, 0, 1, 2, 0⟩] true false [3, 4] 3) (([⟨2, ⟨#[]⟩, 1, 0, 0, 0⟩, ⟨2, ⟨#[]⟩, 2, 0, 0, 0⟩, ⟨3, ⟨#[]⟩, 0, 1, 0, 0⟩, ⟨3, ⟨#[]⟩, 0, 2, 0, 0⟩, ⟨4, ⟨#[]⟩, 0, 1, 2, 0⟩] : List T).length + 1) = [3, 4, 5] from by decide +kernel]
  rintro e w12 ⟨rb, rfl, h1⟩
  clear H
  have H := hid (h1.swap)
  clear h1
  go_wp2_with fail
  refine (all_lit false false [1, 4] rfl (show ∀ x ∈ ([1, 4] : List Int), 1 ≤ x ∧ x ≤ (([⟨2, ⟨#[]⟩, 1, 0, 0, 0⟩, ⟨2, ⟨#[]⟩, 2, 0, 0, 0⟩, ⟨3, ⟨#[]⟩, 0, 1, 0, 0⟩, ⟨3, ⟨#[]⟩, 0, 2, 0, 0⟩, ⟨4, ⟨#[]⟩, 0, 1, 2, 0⟩] : List T).length : Int) from by decide) rfl (by decide) H.out).mono ?_
  rw [allOf_is (L := [⟨2, ⟨#[]⟩, 1, 0, 0, 0⟩, ⟨2, ⟨#[]⟩, 2, 0, 0, 0⟩, ⟨3, ⟨#[]⟩, 0, 1, 0, 0⟩, ⟨3, ⟨#[]⟩, 0, 2, 0, 0⟩, ⟨4, ⟨#[]⟩, 0, 1, 2, 0⟩]) (dh := false) (kem := false) (ks := [1, 4]) HG.out (show ∀ x ∈ ([1, 4] : List Int), 1 ≤ x ∧ x ≤ (([⟨2, ⟨#[]⟩, 1, 0, 0, 0⟩, ⟨2, ⟨#[]⟩, 2, 0, 0, 0⟩, ⟨3, ⟨#[]⟩, 0, 1, 0, 0⟩, ⟨3, ⟨#[]⟩, 0, 2, 0, 0⟩, ⟨4, ⟨#[]⟩, 0, 1, 2, 0⟩] : List T).length : Int) from by decide) 3 (by decide +kernel), show markedTo (reachM [⟨2, ⟨#[]⟩, 1, 0, 0, 0⟩, ⟨2, ⟨#[]⟩, 2, 0, 0, 0⟩, ⟨3, ⟨#[]⟩, 0, 1, 0, 0⟩, ⟨3, ⟨#[]⟩, 0, 2, 0, 0⟩, ⟨4, ⟨#[]⟩, 0, 1, 2, 0⟩] false false [1, 4] 3) (([⟨2, ⟨#[]⟩, 1, 0, 0, 0⟩, ⟨2, ⟨#[]⟩, 2, 0, 0, 0⟩, ⟨3, ⟨#[]⟩, 0, 1, 0, 0⟩, ⟨3, ⟨#[]⟩, 0, 2, 0, 0⟩, ⟨4, ⟨#[]⟩, 0, 1, 2, 0⟩] : List T).length + 1) = [1, 3, 4, 5] from by decide +kernel]
  rintro e w13 ⟨rc, rfl, h1⟩
  clear H
  have H := hid (h1.swap)
  clear h1
  go_wp2_with fail
  refine (all_lit_bad false false [99] rfl (show ¬ ∀ x ∈ ([99] : List Int), 1 ≤ x ∧ x ≤ (([⟨2, ⟨#[]⟩, 1, 0, 0, 0⟩, ⟨2, ⟨#[]⟩, 2, 0, 0, 0⟩, ⟨3, ⟨#[]⟩, 0, 1, 0, 0⟩, ⟨3, ⟨#[]⟩, 0, 2, 0, 0⟩, ⟨4, ⟨#[]⟩, 0, 1, 2, 0⟩] : List T).length : Int) from by decide) rfl (by decide) H.out).mono ?_
  rintro e w15 ⟨rfl, h1⟩
  clear H
  have H := hid h1
  clear h1
  go_wp2_with fail
  refine (can_lit false false [2, 3] 5 rfl (show ∀ x ∈ ([2, 3] : List Int), 1 ≤ x ∧ x ≤ (([⟨2, ⟨#[]⟩, 1, 0, 0, 0⟩, ⟨2, ⟨#[]⟩, 2, 0, 0, 0⟩, ⟨3, ⟨#[]⟩, 0, 1, 0, 0⟩, ⟨3, ⟨#[]⟩, 0, 2, 0, 0⟩, ⟨4, ⟨#[]⟩, 0, 1, 2, 0⟩] : List T).length : Int) from by decide) (show (1 : Int) ≤ 5 ∧ (5 : Int) ≤ (([⟨2, ⟨#[]⟩, 1, 0, 0, 0⟩, ⟨2, ⟨#[]⟩, 2, 0, 0, 0⟩, ⟨3, ⟨#[]⟩, 0, 1, 0, 0⟩, ⟨3, ⟨#[]⟩, 0, 2, 0, 0⟩, ⟨4, ⟨#[]⟩, 0, 1, 2, 0⟩] : List T).length : Int) from by decide) rfl (by decide) H.out).mono ?_
  rintro e w16 ⟨cp, rfl, hcp, h1⟩
  have hcp2 : cp = true := by rw [hcp, ← reach_is HG.out (show ∀ x ∈ ([2, 3] : List Int), 1 ≤ x ∧ x ≤ (([⟨2, ⟨#[]⟩, 1, 0, 0, 0⟩, ⟨2, ⟨#[]⟩, 2, 0, 0, 0⟩, ⟨3, ⟨#[]⟩, 0, 1, 0, 0⟩, ⟨3, ⟨#[]⟩, 0, 2, 0, 0⟩, ⟨4, ⟨#[]⟩, 0, 1, 2, 0⟩] : List T).length : Int) from by decide) 3 (by decide +kernel)]; decide +kernel
  subst hcp2
  clear H hcp
  have H := hid h1
  clear h1
  go_wp2_with fail
  refine (can_nil false false 99 (show ¬ ((1 : Int) ≤ 99 ∧ (99 : Int) ≤ (([⟨2, ⟨#[]⟩, 1, 0, 0, 0⟩, ⟨2, ⟨#[]⟩, 2, 0, 0, 0⟩, ⟨3, ⟨#[]⟩, 0, 1, 0, 0⟩, ⟨3, ⟨#[]⟩, 0, 2, 0, 0⟩, ⟨4, ⟨#[]⟩, 0, 1, 2, 0⟩] : List T).length : Int)) from by decide) H.out).mono ?_
  rintro e w17 ⟨rfl, h1⟩
  clear H
  have H := hid h1
  clear h1
  obtain ⟨ad_rc, c_rc, rfl, _, _, i_rc⟩ := Hd.row_at (H.out.drop)
  have I_rc := hid i_rc
  clear i_rc
  obtain ⟨ad_rb, c_rb, rfl, _, _, i_rb⟩ := Hd.row_at (H.out.drop.drop)
  have I_rb := hid i_rb
  clear i_rb
  obtain ⟨ad_ra, c_ra, rfl, _, _, i_ra⟩ := Hd.row_at (H.out.drop.drop.drop)
  have I_ra := hid i_ra
  clear i_ra
  go_wp2_with fail
  have hb := hid (show Below w17.heap.size w17 (w17.alloc (.cells (ints [3, 4]).toArray 3 (0, 0))) from (Below.refl _ _).alloc (Nat.le_refl _) _)
  refine (same_calls (xs := [3, 4]) (ys := [3, 4]) (I_ra.out.later hb.out) (.inr ⟨w17.heap.size, 0, rfl, fun j hj => by rw [Nat.zero_add]; exact ints_cell (heap_at rfl) hj⟩) rfl rfl (by decide) (by decide)).mono ?_
  rw [show decide (([3, 4] : List Int) = [3, 4]) = true from by decide]
  rintro e w18 ⟨rfl, hb1⟩
  have hb2 := hb.out.trans (hb1.mono hb.out.size)
  replace I_ra := hid (I_ra.out.later hb2)
  replace I_rb := hid (I_rb.out.later hb2)
  replace I_rc := hid (I_rc.out.later hb2)
  replace H := hid (H.out.still hb2)
  clear hb hb1 hb2
  go_wp2_with fail
  have hb := hid (show Below w18.heap.size w18 (w18.alloc (.cells (ints [3, 4, 5]).toArray 3 (0, 0))) from (Below.refl _ _).alloc (Nat.le_refl _) _)
  refine (same_calls (xs := [3, 4, 5]) (ys := [3, 4, 5]) (I_rb.out.later hb.out) (.inr ⟨w18.heap.size, 0, rfl, fun j hj => by rw [Nat.zero_add]; exact ints_cell (heap_at rfl) hj⟩) rfl rfl (by decide) (by decide)).mono ?_
  rw [show decide (([3, 4, 5] : List Int) = [3, 4, 5]) = true from by decide]
  rintro e w19 ⟨rfl, hb1⟩
  have hb2 := hb.out.trans (hb1.mono hb.out.size)
  replace I_ra := hid (I_ra.out.later hb2)
  replace I_rb := hid (I_rb.out.later hb2)
  replace I_rc := hid (I_rc.out.later hb2)
  replace H := hid (H.out.still hb2)
  clear hb hb1 hb2
  go_wp2_with fail
  have hb := hid (show Below w19.heap.size w19 (w19.alloc (.cells (ints [1, 3, 4, 5]).toArray 3 (0, 0))) from (Below.refl _ _).alloc (Nat.le_refl _) _)
  refine (same_calls (xs := [1, 3, 4, 5]) (ys := [1, 3, 4, 5]) (I_rc.out.later hb.out) (.inr ⟨w19.heap.size, 0, rfl, fun j hj => by rw [Nat.zero_add]; exact ints_cell (heap_at rfl) hj⟩) rfl rfl (by decide) (by decide)).mono ?_
  rw [show decide (([1, 3, 4, 5] : List Int) = [1, 3, 4, 5]) = true from by decide]
  rintro e w20 ⟨rfl, hb1⟩
  have hb2 := hb.out.trans (hb1.mono hb.out.size)
  replace I_ra := hid (I_ra.out.later hb2)
  replace I_rb := hid (I_rb.out.later hb2)
  replace I_rc := hid (I_rc.out.later hb2)
  replace H := hid (H.out.still hb2)
  clear hb hb1 hb2
  go_wp2_with fail
  go_ret
  exact ⟨rfl, H.out.drop.drop.drop.drop⟩
end Go.Proofs.Ytbaliaodioflfaa
