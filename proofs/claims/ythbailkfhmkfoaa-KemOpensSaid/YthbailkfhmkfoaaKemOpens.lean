/-
  KemOpens returns true, and writes nothing that was there. For every input.
-/
import Derived.Test.YthbailkfhmkfoaaKemRoom
import Derived.Test.YthbailkfhmkfoaaFixD
import Derived.Test.YthbailkfhmkfoaaArgsC
namespace Go.Proofs.Ythbailkfhmkfoaa
open Go.RowKit

set_option maxRecDepth 100000 in
set_option maxHeartbeats 8000000 in
theorem kemOpens_walk (ad : Option Addr) (len cap : Nat) (ts : List T) (n0 n1 n2 n3 : Int) (W : World) (hlen : len = ts.length) (hmax : len ≤ maxLen) (hts : TermsIn W ad ts)
    (hb : (0 ≤ n0 ∧ n0 ≤ 255) ∧ (0 ≤ n1 ∧ n1 ≤ 255) ∧ (0 ≤ n2 ∧ n2 ≤ 255) ∧ (0 ≤ n3 ∧ n3 ≤ 255)) :
    Calls Try.prog 7 #[.slice ad len cap, .agg #[.int .u8 n0, .int .u8 n1, .int .u8 n2, .int .u8 n3]] W fun e w' => e = .returned (.bool true) ∧ Below W.heap.size W w' := by
  obtain ⟨⟨l0, u0⟩, ⟨l1, u1⟩, ⟨l2, u2⟩, ⟨l3, u3⟩⟩ := hb
  have Hlen := hid hlen
  have Hts := hid hts
  have Hmax := hid hmax
  clear hts hlen hmax
  go_enter Try.func7, Try.ntmps7
  go_wp2_with fail
  refine (stores_calls ((Hd.refl W).box _) ad len cap ts Hlen.out Hmax.out Hts.out 20 (by decide)).mono ?_
  rintro e w1 ⟨b, b', L, rfl, hg, hl, hd⟩
  have H := hid (Room.of (N := 20) hd (by omega))
  have hbox := hd.third.blk
  have c0 : ∀ x : Later w1, x.w.cell? ⟨W.heap.size, 0, none⟩ = some (.int .u8 n0) := fun x => x.cell (by rw [cell_of_heap hbox]; rfl)
  have c1 : ∀ x : Later w1, x.w.cell? ⟨W.heap.size, 1, none⟩ = some (.int .u8 n1) := fun x => x.cell (by rw [cell_of_heap hbox]; rfl)
  have c2 : ∀ x : Later w1, x.w.cell? ⟨W.heap.size, 2, none⟩ = some (.int .u8 n2) := fun x => x.cell (by rw [cell_of_heap hbox]; rfl)
  have c3 : ∀ x : Later w1, x.w.cell? ⟨W.heap.size, 3, none⟩ = some (.int .u8 n3) := fun x => x.cell (by rw [cell_of_heap hbox]; rfl)
  have C0 := hid c0
  have C1 := hid c1
  have C2 := hid c2
  have C3 := hid c3
  clear hd hbox hg c0 c1 c2 c3
  go_wp2_with fail
  refine (len_at H.out.hd).mono ?_
  rintro e w' ⟨rfl, rfl⟩
  by_cases hL : L.length = 0
  · have e0 : ((L.length : Int) == 0) = true := by simp [hL]
    have e1 : (L.length == 0) = true := by simp [hL]
    clear hL
    go_wp2_with fail
    refine (fixed4_calls H.out.hd).mono ?_
    rintro e w' ⟨rfl, h5⟩
    have H5 := hid h5
    clear h5
    go_wp2_with fail
    go_ret
    exact ⟨rfl, H5.out.below⟩
  have e0 : ((L.length : Int) == 0) = false := by simpa using hL
  have e1 : (L.length == 0) = false := by simpa using hL
  have hL1 : (1 : Int) ≤ (L.length : Int) := by omega
  have m0 := mod_range n0 hL1
  obtain ⟨o, ho⟩ : ∃ x, x = 1 + n0 % (L.length : Int) := ⟨_, rfl⟩
  have io : In L o := ⟨by rw [ho]; omega, by rw [ho]; omega⟩
  have Io := hid io
  have Ho := hid ho
  have c0 := C0.out
  have m1 := mod_range n1 hL1
  obtain ⟨x, hx⟩ : ∃ x, x = 1 + n1 % (L.length : Int) := ⟨_, rfl⟩
  have ix : In L x := ⟨by rw [hx]; omega, by rw [hx]; omega⟩
  have Ix := hid ix
  have Hx := hid hx
  have c1 := C1.out
  clear hL ho io C0 hx ix C1
  go_wp2_with fail
  refine wp_region_calm (by kernel_rfl) (by kernel_rfl) ?_
  repeat (go_big_quiet_step ((go_at_call 35; exact Calls.calm_same (len_at (H.out.calm _)))))
  refine wpQuiet_nil ?_
  intro w2 hw2
  obtain ⟨⟨w2, hb2⟩, rfl⟩ := hw2
  replace H := hid (H.out.still hb2)
  rw [show 1 + n0 % (L.length : Int) = o from Ho.out.symm]
  rw [show 1 + n1 % (L.length : Int) = x from Hx.out.symm]
  clear hb2 hl e0 e1 hL1 c0 Ho l0 u0 m0 c1 Hx l1 u1 m1
  go_wp2_with fail
  refine (kpub_room H.out (by decide) Io.out).mono ?_
  rintro e w3 ⟨p, L3, rfl, hat, hext, hroom⟩
  have Ap := hid hat
  have E := hid hext
  clear H
  have H := hid hroom
  clear hat hext hroom
  replace Io := hid (Io.out.ext E.out)
  replace Ix := hid (Ix.out.ext E.out)
  clear E
  go_wp2_with fail
  refine (wrap_room H.out (by decide) Ap.out Ix.out).mono ?_
  rintro e w4 ⟨a1, b1, L4, rfl, hat, hat2, hext, hroom⟩
  have Aa1 := hid hat
  have Ab1 := hid hat2
  have E := hid hext
  clear H
  have H := hid hroom
  clear hat hat2 hext hroom
  replace Ap := hid (Ap.out.ext E.out)
  replace Io := hid (Io.out.ext E.out)
  replace Ix := hid (Ix.out.ext E.out)
  clear E
  go_wp2_with fail
  refine (len_at H.out.hd).mono ?_
  rintro e w' ⟨rfl, rfl⟩
  have hL2 : (1 : Int) ≤ (L4.length : Int) := by have := Ap.out.lo; have := Ap.out.hi; omega
  have hlb : (L4.length : Int) ≤ 1000 := by have := H.out.len; omega
  have f0 : decide ((L4.length : Int) < 1) = false := by simp; omega
  go_wp2_with fail
  have hbox := H.out.hd.third.blk
  have c2 : ∀ x : Later w4, x.w.cell? ⟨W.heap.size, 2, none⟩ = some (.int .u8 n2) := fun x => x.cell (by rw [cell_of_heap hbox]; rfl)
  have m2 := mod_range n2 hL2
  obtain ⟨k, hk⟩ : ∃ x, x = 1 + n2 % (L4.length : Int) := ⟨_, rfl⟩
  have ik : In L4 k := ⟨by rw [hk]; omega, by rw [hk]; omega⟩
  have Ik := hid ik
  have Hk := hid hk
  have c3 : ∀ x : Later w4, x.w.cell? ⟨W.heap.size, 3, none⟩ = some (.int .u8 n3) := fun x => x.cell (by rw [cell_of_heap hbox]; rfl)
  have m3 := mod_range n3 hL2
  obtain ⟨c, hc⟩ : ∃ x, x = 1 + n3 % (L4.length : Int) := ⟨_, rfl⟩
  have ic : In L4 c := ⟨by rw [hc]; omega, by rw [hc]; omega⟩
  have Ic := hid ic
  have Hc := hid hc
  clear hbox hk ik hc ic
  refine wp_region_calm (by kernel_rfl) (by kernel_rfl) ?_
  repeat (go_big_quiet_step (fail))
  refine wpQuiet_nil ?_
  intro wz hwz
  obtain ⟨⟨wz, hbz⟩, rfl⟩ := hwz
  replace H := hid (H.out.still hbz)
  rw [show 1 + n2 % (L4.length : Int) = k from Hk.out.symm]
  rw [show 1 + n3 % (L4.length : Int) = c from Hc.out.symm]
  clear hbz c2 Hk m2 c3 Hc m3
  clear hL2 f0 hlb
  obtain ⟨t, ht⟩ := Ic.out.term
  have Aty := hid ht
  clear ht
  obtain ⟨tk, ts, tn, ta, tb, tc⟩ := t
  go_wp2_with fail
  refine (get_at H.out.hd Aty.out).mono ?_
  dsimp only
  rintro e w6 ⟨rfl, hb1⟩
  replace H := hid ((H.out.still hb1).box (.cells #[.int .i64 tk, .string ts, .int .u64 tn, .int .i64 ta, .int .i64 tb, .int .i64 tc] 49))
  clear hb1
  go_wp2_with fail
  by_cases hb : tk = 6 ∧ ta = k
  · obtain ⟨rfl, rfl⟩ := hb
    obtain ⟨rfl, rfl, rfl⟩ : ts = ⟨#[]⟩ ∧ tn = 0 ∧ tc = 0 := by
      have hm := (Aty.out.may H.out.good).2.2.1
      simp only [T.only, many] at hm
      simp only [T.mk.injEq] at hm
      refine ⟨?_, ?_, ?_⟩
      · simpa using hm.2.1
      · simpa using hm.2.2.1
      · simpa using hm.2.2.2.2.2
    have Ab : Hid (At L4 c (boxT ta tb)) := Aty
    clear Aty
    refine (kopen_room H.out (by decide) Ik.out Ab.out).mono ?_
    rintro e w5 ⟨a, L5, rfl, hat, hext, hroom⟩
    have Aa := hid hat
    have E := hid hext
    clear H
    have H := hid hroom
    clear hat hext hroom
    replace Ap := hid (Ap.out.ext E.out)
    replace Aa1 := hid (Aa1.out.ext E.out)
    replace Ab1 := hid (Ab1.out.ext E.out)
    replace Ab := hid (Ab.out.ext E.out)
    replace Io := hid (Io.out.ext E.out)
    replace Ix := hid (Ix.out.ext E.out)
    replace Ik := hid (Ik.out.ext E.out)
    replace Ic := hid (Ic.out.ext E.out)
    clear E
    have hk0 := H.out.hd.swap.blk
    have d0 := (cell_of_heap hk0 0).trans (show _ = some (.int .i64 6) from rfl)
    have d3 := (cell_of_heap hk0 3).trans (show _ = some (.int .i64 ta) from rfl)
    have d4 := (cell_of_heap hk0 4).trans (show _ = some (.int .i64 tb) from rfl)
    have ltd := (Array.getElem?_eq_some_iff.1 hk0).1
    clear hk0
    go_wp2_with fail
    refine (get_at H.out.hd Aa.out).mono ?_
    simp only [kemT]
    rintro e w6 ⟨rfl, hb1⟩
    replace H := hid ((H.out.still hb1).box (.cells #[.int .i64 7, .string ⟨#[]⟩, .int .u64 0, .int .i64 ta, .int .i64 tb, .int .i64 0] 49))
    clear hb1
    clear d0 d3 d4 ltd
    have hk0 := H.out.hd.swap.blk
    have e0 := (cell_of_heap hk0 0).trans (show _ = some (.int .i64 7) from rfl)
    have e1 := (cell_of_heap hk0 1).trans (show _ = some (.string ⟨#[]⟩) from rfl)
    have e2 := (cell_of_heap hk0 2).trans (show _ = some (.int .u64 0) from rfl)
    have e3 := (cell_of_heap hk0 3).trans (show _ = some (.int .i64 ta) from rfl)
    have e4 := (cell_of_heap hk0 4).trans (show _ = some (.int .i64 tb) from rfl)
    have e5 := (cell_of_heap hk0 5).trans (show _ = some (.int .i64 0) from rfl)
    have lte := (Array.getElem?_eq_some_iff.1 hk0).1
    clear hk0
    have hk0 := H.out.hd.third.blk
    have d0 := (cell_of_heap hk0 0).trans (show _ = some (.int .i64 6) from rfl)
    have d3 := (cell_of_heap hk0 3).trans (show _ = some (.int .i64 ta) from rfl)
    have d4 := (cell_of_heap hk0 4).trans (show _ = some (.int .i64 tb) from rfl)
    have ltd := (Array.getElem?_eq_some_iff.1 hk0).1
    clear hk0
    go_wp2_with fail
    refine (fixed4_calls H.out.hd).mono ?_
    rintro e w' ⟨rfl, h5⟩
    have H5 := hid h5
    clear h5
    go_wp2_with fail
    go_ret
    exact ⟨rfl, H5.out.below⟩
  · have Hb := hid hb
    clear hb
    refine (kopen_bad H.out Ik.out Aty.out Hb.out).mono ?_
    rintro e w7 ⟨rfl, hroom⟩
    replace H := hid hroom
    clear hroom
    have hk0 := H.out.hd.swap.blk
    have d0 := (cell_of_heap hk0 0).trans (show _ = some (.int .i64 tk) from rfl)
    have d3 := (cell_of_heap hk0 3).trans (show _ = some (.int .i64 ta) from rfl)
    have d4 := (cell_of_heap hk0 4).trans (show _ = some (.int .i64 tb) from rfl)
    have ltd := (Array.getElem?_eq_some_iff.1 hk0).1
    clear hk0
    by_cases hk6 : tk = 6
    · have g1 : (tk != 6) = false := by simp [hk6]
      have g2 : (ta != k) = true := by rw [bne_iff_ne]; exact fun h => Hb.out ⟨hk6, h⟩
      clear hk6
      go_wp2_with fail
      refine (len_at H.out.hd).mono ?_
      rintro e w' ⟨rfl, rfl⟩
      go_wp2_with fail
      refine (fixed4_calls H.out.hd).mono ?_
      rintro e w' ⟨rfl, h5⟩
      have H5 := hid h5
      clear h5
      go_wp2_with fail
      go_ret
      exact ⟨rfl, H5.out.below⟩
    · have g1 : (tk != 6) = true := by simp [hk6]
      clear hk6
      go_wp2_with fail
      refine (len_at H.out.hd).mono ?_
      rintro e w' ⟨rfl, rfl⟩
      go_wp2_with fail
      refine (fixed4_calls H.out.hd).mono ?_
      rintro e w' ⟨rfl, h5⟩
      have H5 := hid h5
      clear h5
      go_wp2_with fail
      go_ret
      exact ⟨rfl, H5.out.below⟩
end Go.Proofs.Ythbailkfhmkfoaa
