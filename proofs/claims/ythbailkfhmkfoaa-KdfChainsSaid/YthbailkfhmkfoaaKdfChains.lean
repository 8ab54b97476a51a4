/-
  KdfChains returns true, and writes nothing that was there. For every input.
-/
import Derived.Test.YthbailkfhmkfoaaKdfRoom
import Derived.Test.YthbailkfhmkfoaaFixF
import Derived.Test.YthbailkfhmkfoaaArgsC
namespace Go.Proofs.Ythbailkfhmkfoaa
open Go.RowKit

set_option maxRecDepth 100000 in
set_option maxHeartbeats 8000000 in
theorem kdfChains_walk (ad : Option Addr) (len cap : Nat) (ts : List T) (q : Int) (hq0 : 0 ≤ q) (hq1 : q ≤ 255) (n0 n1 : Int) (W : World) (hlen : len = ts.length) (hmax : len ≤ maxLen) (hts : TermsIn W ad ts)
    (hb : (0 ≤ n0 ∧ n0 ≤ 255) ∧ (0 ≤ n1 ∧ n1 ≤ 255)) :
    Calls Try.prog 9 #[.slice ad len cap, .int .u8 q, .agg #[.int .u8 n0, .int .u8 n1]] W fun e w' => e = .returned (.bool true) ∧ Below W.heap.size W w' := by
  obtain ⟨⟨l0, u0⟩, ⟨l1, u1⟩⟩ := hb
  have Hlen := hid hlen
  have Hts := hid hts
  have Hmax := hid hmax
  clear hts hlen hmax
  go_enter Try.func9, Try.ntmps9
  go_wp2_with fail
  refine (stores_calls ((Hd.refl W).box _) ad len cap ts Hlen.out Hmax.out Hts.out 20 (by decide)).mono ?_
  rintro e w1 ⟨b, b', L, rfl, hg, hl, hd⟩
  have H := hid (Room.of (N := 20) hd (by omega))
  have hbox := hd.third.blk
  have c0 : ∀ x : Later w1, x.w.cell? ⟨W.heap.size, 0, none⟩ = some (.int .u8 n0) := fun x => x.cell (by rw [cell_of_heap hbox]; rfl)
  have c1 : ∀ x : Later w1, x.w.cell? ⟨W.heap.size, 1, none⟩ = some (.int .u8 n1) := fun x => x.cell (by rw [cell_of_heap hbox]; rfl)
  have C0 := hid c0
  have C1 := hid c1
  clear hd hbox hg c0 c1
  go_wp2_with fail
  refine (len_at H.out.hd).mono ?_
  rintro e w' ⟨rfl, rfl⟩
  by_cases hL : L.length = 0
  · have e0 : ((L.length : Int) == 0) = true := by simp [hL]
    have e1 : (L.length == 0) = true := by simp [hL]
    clear hL
    go_wp2_with fail
    refine (fixed6_calls H.out.hd).mono ?_
    rintro e w' ⟨rfl, h5⟩
    have H5 := hid h5
    clear h5
    go_wp2_with fail
    go_ret
    exact ⟨rfl, H5.out.below⟩
  have e0 : ((L.length : Int) == 0) = false := by simpa using hL
  have e1 : (L.length == 0) = false := by simpa using hL
  have hL1 : (1 : Int) ≤ (L.length : Int) := by omega
  have mq := mod_range q hL1
  obtain ⟨k, hk⟩ : ∃ x, x = 1 + q % (L.length : Int) := ⟨_, rfl⟩
  have ik : In L k := ⟨by rw [hk]; omega, by rw [hk]; omega⟩
  have Ik := hid ik
  have Hk := hid hk
  have c0 := C0.out
  have c1 := C1.out
  clear hL hk ik C0 C1
  go_wp2_with fail
  refine wp_region_calm (by kernel_rfl) (by kernel_rfl) ?_
  repeat (go_big_quiet_step ((go_at_call 35; exact Calls.calm_same (len_at (H.out.calm _)))))
  refine wpQuiet_nil ?_
  intro w2 hw2
  obtain ⟨⟨w2, hb2⟩, rfl⟩ := hw2
  replace H := hid (H.out.still hb2)
  rw [show 1 + q % (L.length : Int) = k from Hk.out.symm]
  obtain ⟨x, hx⟩ : ∃ x : Nat, n0 % 31 = (x : Int) := ⟨(n0 % 31).toNat, by omega⟩
  rw [hx]
  have bdx : x ≤ 30 := by omega
  clear hx
  obtain ⟨y, hy⟩ : ∃ y : Nat, n1 % 31 = (y : Int) := ⟨(n1 % 31).toNat, by omega⟩
  rw [hy]
  have bdy : y ≤ 30 := by omega
  clear hy
  clear hb2 hl e0 e1 hL1 c0 c1 Hk mq l0 u0 l1 u1 hq0 hq1
  go_wp2_with fail
  refine (chain_room (t := x + y) (by omega) H.out (by omega) (by omega) Ik.out).mono ?_
  rintro e w3 ⟨z, L3, rfl, hch, hext, hroom⟩
  have E := hid hext
  clear H
  have H := hid hroom
  replace Ik := hid (Ik.out.ext E.out)
  obtain ⟨u, hu, hz⟩ := hch.split
  have Hu := hid hu
  have Hz := hid hz
  clear hext hroom hu hz E
  go_wp2_with fail
  refine (chain_known (t := x) rfl H.out (by omega) Ik.out Hu.out).mono ?_
  rintro e w4 ⟨rfl, hroom⟩
  replace H := hid hroom
  clear hroom
  go_wp2_with fail
  refine (chain_known (t := y) rfl H.out (by omega) (Hu.out.inn Ik.out) Hz.out).mono ?_
  rintro e w5 ⟨rfl, hroom⟩
  replace H := hid hroom
  clear hroom
  rw [show x + y = y + x by omega] at hch
  obtain ⟨v, hv, hz2⟩ := hch.split
  have Hv := hid hv
  have Hz2 := hid hz2
  clear hv hz2 hch
  go_wp2_with fail
  refine (chain_known (t := y) rfl H.out (by omega) Ik.out Hv.out).mono ?_
  rintro e w6 ⟨rfl, hroom⟩
  replace H := hid hroom
  clear hroom
  have f1 : (u == v) = ((x : Int) == (y : Int)) := by
    refine beq_same ⟨fun e => ?_, fun e => ?_⟩
    · refine Classical.byContradiction fun hne => ?_
      rcases Nat.lt_or_ge x y with h | h
      · obtain ⟨r, h1, h2⟩ := (show Chained L3 7 (x + (y - x)) k v by rw [show x + (y - x) = y by omega]; exact Hv.out).split
        have h3 := h1.name H.out.good Hu.out
        have h4 := h2.le H.out.good
        omega
      · obtain ⟨r, h1, h2⟩ := (show Chained L3 7 (y + (x - y)) k u by rw [show y + (x - y) = x by omega]; exact Hu.out).split
        have h3 := h1.name H.out.good Hv.out
        have h4 := h2.le H.out.good
        omega
    · have : x = y := by omega
      subst this
      exact Hu.out.name H.out.good Hv.out
  go_wp2_with fail
  refine (fixed6_calls H.out.hd).mono ?_
  rintro e w' ⟨rfl, h5⟩
  have H5 := hid h5
  clear h5
  go_wp2_with fail
  go_ret
  exact ⟨rfl, H5.out.below⟩
end Go.Proofs.Ythbailkfhmkfoaa
