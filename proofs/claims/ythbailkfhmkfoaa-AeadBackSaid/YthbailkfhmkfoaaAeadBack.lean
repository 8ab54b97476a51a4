/-
  AeadBack returns true, and writes nothing that was there. For every input.
-/
import Derived.Test.YthbailkfhmkfoaaAeadRoom
import Derived.Test.YthbailkfhmkfoaaFixE
import Derived.Test.YthbailkfhmkfoaaArgsC
import Derived.Test.YthbailkfhmkfoaaRoom
namespace Go.Proofs.Ythbailkfhmkfoaa
open Go.RowKit

set_option maxRecDepth 100000 in
set_option maxHeartbeats 16000000 in
theorem aeadBack_walk (ad : Option Addr) (len cap : Nat) (ts : List T) (n0 n1 n2 n3 : Int) (s : ByteArray) (W : World) (hlen : len = ts.length) (hmax : len ≤ maxLen) (hts : TermsIn W ad ts)
    (hb : (0 ≤ n0 ∧ n0 ≤ 255) ∧ (0 ≤ n1 ∧ n1 ≤ 255) ∧ (0 ≤ n2 ∧ n2 ≤ 255) ∧ (0 ≤ n3 ∧ n3 ≤ 255)) (hsz : s.size ≤ maxLen) :
    Calls Try.prog 16 #[.slice ad len cap, .agg #[.int .u8 n0, .int .u8 n1, .int .u8 n2, .int .u8 n3], .string s] W fun e w' => e = .returned (.bool true) ∧ Below W.heap.size W w' := by
  obtain ⟨⟨l0, u0⟩, ⟨l1, u1⟩, ⟨l2, u2⟩, ⟨l3, u3⟩⟩ := hb
  have Hlen := hid hlen
  have Hts := hid hts
  have Hmax := hid hmax
  clear hts hlen hmax
  have hsz9 := hsz
  unfold maxLen at hsz9
  clear hsz
  by_cases hs : s.size ≤ 1000
  case pos =>
    go_enter Try.func16, Try.ntmps16
    go_wp2_with fail
    refine (stores_calls ((Hd.refl W).box _) ad len cap ts Hlen.out Hmax.out Hts.out 20 (by decide)).mono ?_
    rintro e w1 ⟨b, b', L, rfl, hg, hl, hd⟩
    have H := hid (Room.of (N := 20) hd (by omega))
    have hbox := hd.third.blk
    have c0 : ∀ x : Later w1, x.w.cell? ⟨W.heap.size, 0, none⟩ = some (.int .u8 n0) := fun x => x.cell (by rw [cell_of_heap hbox]; rfl)
    have c1 : ∀ x : Later w1, x.w.cell? ⟨W.heap.size, 1, none⟩ = some (.int .u8 n1) := fun x => x.cell (by rw [cell_of_heap hbox]; rfl)
    have c2 : ∀ x : Later w1, x.w.cell? ⟨W.heap.size, 2, none⟩ = some (.int .u8 n2) := fun x => x.cell (by rw [cell_of_heap hbox]; rfl)
    have c3 : ∀ x : Later w1, x.w.cell? ⟨W.heap.size, 3, none⟩ = some (.int .u8 n3) := fun x => x.cell (by rw [cell_of_heap hbox]; rfl)
    have C0 := hid c0
    have C1 := hid c1
    have C2 := hid c2
    have C3 := hid c3
    clear hd hbox hg c0 c1 c2 c3
    go_wp2_with fail
    refine (len_at H.out.hd).mono ?_
    rintro e w' ⟨rfl, rfl⟩
    by_cases hL : L.length = 0
    · have e0 : ((L.length : Int) == 0) = true := by simp [hL]
      have e1 : (L.length == 0) = true := by simp [hL]
      clear hL
      go_wp2_with fail
      refine (fixed5_calls H.out.hd).mono ?_
      rintro e w' ⟨rfl, h5⟩
      have H5 := hid h5
      clear h5
      go_wp2_with fail
      go_ret
      exact ⟨rfl, H5.out.below⟩
    have e0 : ((L.length : Int) == 0) = false := by simpa using hL
    have e1 : (L.length == 0) = false := by simpa using hL
    have hL1 : (1 : Int) ≤ (L.length : Int) := by omega
    have m0 := mod_range n0 hL1
    obtain ⟨k, hk⟩ : ∃ x, x = 1 + n0 % (L.length : Int) := ⟨_, rfl⟩
    have ik : In L k := ⟨by rw [hk]; omega, by rw [hk]; omega⟩
    have Ik := hid ik
    have Hk := hid hk
    have c0 := C0.out
    have m1 := mod_range n1 hL1
    obtain ⟨bb, hbb⟩ : ∃ x, x = 1 + n1 % (L.length : Int) := ⟨_, rfl⟩
    have ibb : In L bb := ⟨by rw [hbb]; omega, by rw [hbb]; omega⟩
    have Ibb := hid ibb
    have Hbb := hid hbb
    have c1 := C1.out
    have m2 := mod_range n2 hL1
    obtain ⟨o, ho⟩ : ∃ x, x = 1 + n2 % (L.length : Int) := ⟨_, rfl⟩
    have io : In L o := ⟨by rw [ho]; omega, by rw [ho]; omega⟩
    have Io := hid io
    have Ho := hid ho
    have c2 := C2.out
    have c3 := C3.out
    clear hL hk ik C0 hbb ibb C1 ho io C2 C3
    go_wp2_with fail
    refine wp_region_calm (by kernel_rfl) (by kernel_rfl) ?_
    repeat (go_big_quiet_step ((go_at_call 35; exact Calls.calm_same (len_at (H.out.calm _)))))
    refine wpQuiet_nil ?_
    intro w2 hw2
    obtain ⟨⟨w2, hb2⟩, rfl⟩ := hw2
    replace H := hid (H.out.still hb2)
    rw [show 1 + n0 % (L.length : Int) = k from Hk.out.symm]
    rw [show 1 + n1 % (L.length : Int) = bb from Hbb.out.symm]
    rw [show 1 + n2 % (L.length : Int) = o from Ho.out.symm]
    clear c3 hb2 hl e0 e1 hL1 c0 Hk l0 u0 m0 c1 Hbb l1 u1 m1 c2 Ho l2 u2 m2
    go_wp2_with fail
    refine (text_room H.out (by decide) Ik.out Ibb.out hs).mono ?_
    rintro e w3 ⟨c, p, L3, rfl, hat, hat2, hext, hroom⟩
    have Ac := hid hat
    have Ap := hid hat2
    have E := hid hext
    clear H
    have H := hid hroom
    clear hat hat2 hext hroom
    replace Ik := hid (Ik.out.ext E.out)
    replace Ibb := hid (Ibb.out.ext E.out)
    replace Io := hid (Io.out.ext E.out)
    clear E
    go_wp2_with fail
    refine (read_ok H.out Ik.out Ibb.out Ac.out Ap.out).mono ?_
    rintro e w4 ⟨rfl, hroom⟩
    replace H := hid hroom
    clear hroom
    by_cases hok : o = k
    · have f1 : (o == k) = true := by simpa using hok
      have Hok := hid hok
      clear hok
      go_wp2_with fail
      refine (read_ok H.out Io.out Ibb.out (by rw [Hok.out]; exact Ac.out) Ap.out).mono ?_
      rintro e w5 ⟨rfl, hroom⟩
      replace H := hid hroom
      clear hroom
      by_cases hob : o = bb
      · have f2 : (o == bb) = true := by simpa using hob
        have Hob := hid hob
        clear hob
        go_wp2_with fail
        refine (read_ok H.out Ik.out Io.out (by rw [Hob.out]; exact Ac.out) Ap.out).mono ?_
        rintro e w6 ⟨rfl, hroom⟩
        replace H := hid hroom
        clear hroom
        go_wp2_with fail
        refine (read_bad H.out Ik.out Ibb.out Ac.out (fun h => by have h3 : n3 = n3 + 1 := h.2.2.1; omega)).mono ?_
        rintro e w7 ⟨rfl, hroom⟩
        replace H := hid hroom
        clear hroom
        go_wp2_with fail
        refine (fixed5_calls H.out.hd).mono ?_
        rintro e w' ⟨rfl, h5⟩
        have H5 := hid h5
        clear h5
        go_wp2_with fail
        go_ret
        exact ⟨rfl, H5.out.below⟩
      · have f2 : (o == bb) = false := by simpa using hob
        have Hob := hid hob
        clear hob
        go_wp2_with fail
        refine (read_bad H.out Ik.out Io.out Ac.out (fun h => Hob.out h.2.2.2.symm)).mono ?_
        rintro e w6 ⟨rfl, hroom⟩
        replace H := hid hroom
        clear hroom
        go_wp2_with fail
        refine (read_bad H.out Ik.out Ibb.out Ac.out (fun h => by have h3 : n3 = n3 + 1 := h.2.2.1; omega)).mono ?_
        rintro e w7 ⟨rfl, hroom⟩
        replace H := hid hroom
        clear hroom
        go_wp2_with fail
        refine (fixed5_calls H.out.hd).mono ?_
        rintro e w' ⟨rfl, h5⟩
        have H5 := hid h5
        clear h5
        go_wp2_with fail
        go_ret
        exact ⟨rfl, H5.out.below⟩
    · have f1 : (o == k) = false := by simpa using hok
      have Hok := hid hok
      clear hok
      go_wp2_with fail
      refine (read_bad H.out Io.out Ibb.out Ac.out (fun h => Hok.out h.2.1.symm)).mono ?_
      rintro e w5 ⟨rfl, hroom⟩
      replace H := hid hroom
      clear hroom
      by_cases hob : o = bb
      · have f2 : (o == bb) = true := by simpa using hob
        have Hob := hid hob
        clear hob
        go_wp2_with fail
        refine (read_ok H.out Ik.out Io.out (by rw [Hob.out]; exact Ac.out) Ap.out).mono ?_
        rintro e w6 ⟨rfl, hroom⟩
        replace H := hid hroom
        clear hroom
        go_wp2_with fail
        refine (read_bad H.out Ik.out Ibb.out Ac.out (fun h => by have h3 : n3 = n3 + 1 := h.2.2.1; omega)).mono ?_
        rintro e w7 ⟨rfl, hroom⟩
        replace H := hid hroom
        clear hroom
        go_wp2_with fail
        refine (fixed5_calls H.out.hd).mono ?_
        rintro e w' ⟨rfl, h5⟩
        have H5 := hid h5
        clear h5
        go_wp2_with fail
        go_ret
        exact ⟨rfl, H5.out.below⟩
      · have f2 : (o == bb) = false := by simpa using hob
        have Hob := hid hob
        clear hob
        go_wp2_with fail
        refine (read_bad H.out Ik.out Io.out Ac.out (fun h => Hob.out h.2.2.2.symm)).mono ?_
        rintro e w6 ⟨rfl, hroom⟩
        replace H := hid hroom
        clear hroom
        go_wp2_with fail
        refine (read_bad H.out Ik.out Ibb.out Ac.out (fun h => by have h3 : n3 = n3 + 1 := h.2.2.1; omega)).mono ?_
        rintro e w7 ⟨rfl, hroom⟩
        replace H := hid hroom
        clear hroom
        go_wp2_with fail
        refine (fixed5_calls H.out.hd).mono ?_
        rintro e w' ⟨rfl, h5⟩
        have H5 := hid h5
        clear h5
        go_wp2_with fail
        go_ret
        exact ⟨rfl, H5.out.below⟩
  go_enter Try.func16, Try.ntmps16
  go_wp2_with fail
  refine (stores_calls ((Hd.refl W).box _) ad len cap ts Hlen.out Hmax.out Hts.out 20 (by decide)).mono ?_
  rintro e w1 ⟨b, b', L, rfl, hg, hl, hd⟩
  have H := hid (Room.of (N := 20) hd (by omega))
  have hbox := hd.third.blk
  have c0 : ∀ x : Later w1, x.w.cell? ⟨W.heap.size, 0, none⟩ = some (.int .u8 n0) := fun x => x.cell (by rw [cell_of_heap hbox]; rfl)
  have c1 : ∀ x : Later w1, x.w.cell? ⟨W.heap.size, 1, none⟩ = some (.int .u8 n1) := fun x => x.cell (by rw [cell_of_heap hbox]; rfl)
  have c2 : ∀ x : Later w1, x.w.cell? ⟨W.heap.size, 2, none⟩ = some (.int .u8 n2) := fun x => x.cell (by rw [cell_of_heap hbox]; rfl)
  have c3 : ∀ x : Later w1, x.w.cell? ⟨W.heap.size, 3, none⟩ = some (.int .u8 n3) := fun x => x.cell (by rw [cell_of_heap hbox]; rfl)
  have C0 := hid c0
  have C1 := hid c1
  have C2 := hid c2
  have C3 := hid c3
  clear hd hbox hg c0 c1 c2 c3
  go_wp2_with fail
  refine (len_at H.out.hd).mono ?_
  rintro e w' ⟨rfl, rfl⟩
  by_cases hL : L.length = 0
  · have e0 : ((L.length : Int) == 0) = true := by simp [hL]
    have e1 : (L.length == 0) = true := by simp [hL]
    clear hL
    go_wp2_with fail
    refine (fixed5_calls H.out.hd).mono ?_
    rintro e w' ⟨rfl, h5⟩
    have H5 := hid h5
    clear h5
    go_wp2_with fail
    go_ret
    exact ⟨rfl, H5.out.below⟩
  have e0 : ((L.length : Int) == 0) = false := by simpa using hL
  have e1 : (L.length == 0) = false := by simpa using hL
  have hL1 : (1 : Int) ≤ (L.length : Int) := by omega
  have m0 := mod_range n0 hL1
  obtain ⟨k, hk⟩ : ∃ x, x = 1 + n0 % (L.length : Int) := ⟨_, rfl⟩
  have ik : In L k := ⟨by rw [hk]; omega, by rw [hk]; omega⟩
  have Ik := hid ik
  have Hk := hid hk
  have c0 := C0.out
  have m1 := mod_range n1 hL1
  obtain ⟨bb, hbb⟩ : ∃ x, x = 1 + n1 % (L.length : Int) := ⟨_, rfl⟩
  have ibb : In L bb := ⟨by rw [hbb]; omega, by rw [hbb]; omega⟩
  have Ibb := hid ibb
  have Hbb := hid hbb
  have c1 := C1.out
  have m2 := mod_range n2 hL1
  obtain ⟨o, ho⟩ : ∃ x, x = 1 + n2 % (L.length : Int) := ⟨_, rfl⟩
  have io : In L o := ⟨by rw [ho]; omega, by rw [ho]; omega⟩
  have Io := hid io
  have Ho := hid ho
  have c2 := C2.out
  have c3 := C3.out
  clear hL hk ik C0 hbb ibb C1 ho io C2 C3
  go_wp2_with fail
  refine wp_region_calm (by kernel_rfl) (by kernel_rfl) ?_
  repeat (go_big_quiet_step ((go_at_call 35; exact Calls.calm_same (len_at (H.out.calm _)))))
  refine wpQuiet_nil ?_
  intro w2 hw2
  obtain ⟨⟨w2, hb2⟩, rfl⟩ := hw2
  replace H := hid (H.out.still hb2)
  rw [show 1 + n0 % (L.length : Int) = k from Hk.out.symm]
  rw [show 1 + n1 % (L.length : Int) = bb from Hbb.out.symm]
  rw [show 1 + n2 % (L.length : Int) = o from Ho.out.symm]
  clear c3 hb2 hl e0 e1 hL1 c0 Hk l0 u0 m0 c1 Hbb l1 u1 m1 c2 Ho l2 u2 m2
  go_wp2_with fail
  refine (text_room H.out (by decide) Ik.out Ibb.out (by simp only [ByteArray.size_extract]; omega)).mono ?_
  rintro e w3 ⟨c, p, L3, rfl, hat, hat2, hext, hroom⟩
  have Ac := hid hat
  have Ap := hid hat2
  have E := hid hext
  clear H
  have H := hid hroom
  clear hat hat2 hext hroom
  replace Ik := hid (Ik.out.ext E.out)
  replace Ibb := hid (Ibb.out.ext E.out)
  replace Io := hid (Io.out.ext E.out)
  clear E
  go_wp2_with fail
  refine (read_ok H.out Ik.out Ibb.out Ac.out Ap.out).mono ?_
  rintro e w4 ⟨rfl, hroom⟩
  replace H := hid hroom
  clear hroom
  by_cases hok : o = k
  · have f1 : (o == k) = true := by simpa using hok
    have Hok := hid hok
    clear hok
    go_wp2_with fail
    refine (read_ok H.out Io.out Ibb.out (by rw [Hok.out]; exact Ac.out) Ap.out).mono ?_
    rintro e w5 ⟨rfl, hroom⟩
    replace H := hid hroom
    clear hroom
    by_cases hob : o = bb
    · have f2 : (o == bb) = true := by simpa using hob
      have Hob := hid hob
      clear hob
      go_wp2_with fail
      refine (read_ok H.out Ik.out Io.out (by rw [Hob.out]; exact Ac.out) Ap.out).mono ?_
      rintro e w6 ⟨rfl, hroom⟩
      replace H := hid hroom
      clear hroom
      go_wp2_with fail
      refine (read_bad H.out Ik.out Ibb.out Ac.out (fun h => by have h3 : n3 = n3 + 1 := h.2.2.1; omega)).mono ?_
      rintro e w7 ⟨rfl, hroom⟩
      replace H := hid hroom
      clear hroom
      go_wp2_with fail
      refine (fixed5_calls H.out.hd).mono ?_
      rintro e w' ⟨rfl, h5⟩
      have H5 := hid h5
      clear h5
      go_wp2_with fail
      go_ret
      exact ⟨rfl, H5.out.below⟩
    · have f2 : (o == bb) = false := by simpa using hob
      have Hob := hid hob
      clear hob
      go_wp2_with fail
      refine (read_bad H.out Ik.out Io.out Ac.out (fun h => Hob.out h.2.2.2.symm)).mono ?_
      rintro e w6 ⟨rfl, hroom⟩
      replace H := hid hroom
      clear hroom
      go_wp2_with fail
      refine (read_bad H.out Ik.out Ibb.out Ac.out (fun h => by have h3 : n3 = n3 + 1 := h.2.2.1; omega)).mono ?_
      rintro e w7 ⟨rfl, hroom⟩
      replace H := hid hroom
      clear hroom
      go_wp2_with fail
      refine (fixed5_calls H.out.hd).mono ?_
      rintro e w' ⟨rfl, h5⟩
      have H5 := hid h5
      clear h5
      go_wp2_with fail
      go_ret
      exact ⟨rfl, H5.out.below⟩
  · have f1 : (o == k) = false := by simpa using hok
    have Hok := hid hok
    clear hok
    go_wp2_with fail
    refine (read_bad H.out Io.out Ibb.out Ac.out (fun h => Hok.out h.2.1.symm)).mono ?_
    rintro e w5 ⟨rfl, hroom⟩
    replace H := hid hroom
    clear hroom
    by_cases hob : o = bb
    · have f2 : (o == bb) = true := by simpa using hob
      have Hob := hid hob
      clear hob
      go_wp2_with fail
      refine (read_ok H.out Ik.out Io.out (by rw [Hob.out]; exact Ac.out) Ap.out).mono ?_
      rintro e w6 ⟨rfl, hroom⟩
      replace H := hid hroom
      clear hroom
      go_wp2_with fail
      refine (read_bad H.out Ik.out Ibb.out Ac.out (fun h => by have h3 : n3 = n3 + 1 := h.2.2.1; omega)).mono ?_
      rintro e w7 ⟨rfl, hroom⟩
      replace H := hid hroom
      clear hroom
      go_wp2_with fail
      refine (fixed5_calls H.out.hd).mono ?_
      rintro e w' ⟨rfl, h5⟩
      have H5 := hid h5
      clear h5
      go_wp2_with fail
      go_ret
      exact ⟨rfl, H5.out.below⟩
    · have f2 : (o == bb) = false := by simpa using hob
      have Hob := hid hob
      clear hob
      go_wp2_with fail
      refine (read_bad H.out Ik.out Io.out Ac.out (fun h => Hob.out h.2.2.2.symm)).mono ?_
      rintro e w6 ⟨rfl, hroom⟩
      replace H := hid hroom
      clear hroom
      go_wp2_with fail
      refine (read_bad H.out Ik.out Ibb.out Ac.out (fun h => by have h3 : n3 = n3 + 1 := h.2.2.1; omega)).mono ?_
      rintro e w7 ⟨rfl, hroom⟩
      replace H := hid hroom
      clear hroom
      go_wp2_with fail
      refine (fixed5_calls H.out.hd).mono ?_
      rintro e w' ⟨rfl, h5⟩
      have H5 := hid h5
      clear h5
      go_wp2_with fail
      go_ret
      exact ⟨rfl, H5.out.below⟩
end Go.Proofs.Ythbailkfhmkfoaa
