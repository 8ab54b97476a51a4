/-
  DhRoom returns true, and writes nothing that was there. For every input.
-/
import Derived.Test.YtfhpgcgiogmlgaaDhRoom
import Derived.Test.YtfhpgcgiogmlgaaFixC
import Derived.Test.YtfhpgcgiogmlgaaArgsC
namespace Go.Proofs.Ytfhpgcgiogmlgaa
open Go.RowKit

/-- A put of what may be, with room or without. -/
theorem put_may {m : Int} {L : List T} {t : T} (g : Good L) (hl : (L.length : Int) ≤ m) (hm : t.may L.length) :
    (∃ i L', put m L t = (i, 0, L') ∧ At L' i t ∧ Ext L L') ∨ (put m L t = (0, 4, L) ∧ (L.length : Int) = m) := by
  by_cases hr : (L.length : Int) < m
  · obtain ⟨i, L', h1, h2, h3, _⟩ := put_ok g hm hr
    exact .inl ⟨i, L', h1, h2, h3⟩
  · cases hf : find t L with
    | some i => exact .inl ⟨i + 1, L, by simp [put, hm, hf], find_at hf, Ext.refl L⟩
    | none => exact .inr ⟨putp_full hm (find_none.1 hf) (by omega), by omega⟩

theorem start2 (m : Int) (h : 2 ≤ m) : (put m [] ⟨2, ⟨#[]⟩, 1, 0, 0, 0⟩).2.2 = [nonT 1] ∧ (put m [nonT 1] ⟨2, ⟨#[]⟩, 2, 0, 0, 0⟩).2.2 = [nonT 1, nonT 2] := by
  refine ⟨?_, ?_⟩
  · rw [putp_new (t := ⟨2, ⟨#[]⟩, 1, 0, 0, 0⟩) (may_non 1) (by simp) (by simp; omega)]; rfl
  · rw [putp_new (t := ⟨2, ⟨#[]⟩, 2, 0, 0, 0⟩) (may_non 2) (by simp [nonT]) (by simp; omega)]; rfl

set_option maxRecDepth 100000 in
set_option maxHeartbeats 16000000 in
theorem dhRoom_walk (a0 : Int) (ha0 : 0 ≤ a0) (ha1 : a0 ≤ 255) (ad2 : Option Addr) (len2 cap2 : Nat) (zs : List (List Int)) (W : World)
    (hlen2 : len2 = zs.length) (hmax2 : len2 ≤ maxLen) (hzs : RowsIn 2 .u8 W ad2 zs) :
    Calls Try.prog 12 #[.int .u8 a0, .slice ad2 len2 cap2] W fun e w' => e = .returned (.bool true) ∧ Below W.heap.size W w' := by
  have Hlen2 := hid hlen2
  have Hzs := hid hzs
  clear hlen2 hzs
  unfold maxLen at hmax2
  have hm0 : 0 ≤ a0 % 6 := by omega
  have hm1 : a0 % 6 ≤ 5 := by omega
  go_enter Try.func12, Try.ntmps12
  go_wp2_with fail
  refine (new_calls (Hd.refl W) (by omega) (by omega)).mono ?_
  rintro e w1 ⟨b, rfl, hd1⟩
  have H := hid hd1
  clear hd1
  go_wp2_with fail
  refine (put_calls _ _ _ _ _ _ H.out).mono ?_
  rw [(start2 (2 + a0 % 6) (by omega)).1]
  obtain ⟨p1, q1, hp1⟩ : ∃ p q, (put (2 + a0 % 6) [] ⟨2, ⟨#[]⟩, 1, 0, 0, 0⟩).1 = p ∧ (put (2 + a0 % 6) [] ⟨2, ⟨#[]⟩, 1, 0, 0, 0⟩).2.1 = q := ⟨_, _, rfl, rfl⟩
  rw [hp1.1, hp1.2]
  rintro e w2 ⟨rfl, h2⟩
  replace H := hid h2
  clear h2 hp1
  go_wp2_with fail
  refine (put_calls _ _ _ _ _ _ H.out).mono ?_
  rw [(start2 (2 + a0 % 6) (by omega)).2]
  obtain ⟨p2, q2, hp1⟩ : ∃ p q, (put (2 + a0 % 6) [nonT 1] ⟨2, ⟨#[]⟩, 2, 0, 0, 0⟩).1 = p ∧ (put (2 + a0 % 6) [nonT 1] ⟨2, ⟨#[]⟩, 2, 0, 0, 0⟩).2.1 = q := ⟨_, _, rfl, rfl⟩
  rw [hp1.1, hp1.2]
  rintro e w3 ⟨rfl, h2⟩
  replace H := hid h2
  clear h2 hp1
  go_wp2_with fail
  go_loopw [7] (fun i wr => ∃ j : Nat, j ≤ len2 ∧ i = .int .i64 j ∧ ∃ L : List T, 2 ≤ L.length ∧ Hid (Hd W wr [Sto b L (2 + a0 % 6)])) (fun i _ => len2 - (intOf i).toNat)
  case atStart => exact ⟨0, Nat.zero_le _, rfl, [nonT 1, nonT 2], Nat.le_refl _, H⟩
  case round =>
    clear H
    obtain ⟨j, hj, rfl, L, hL2, H⟩ := hrel
    by_cases hlt : j < len2 ∧ j < 12
    · have hd1 : decide (j < len2) = true := by simpa using hlt.1
      have hd2 : decide ((j : Int) < 12) = true := by simp; omega
      obtain ⟨z, hz⟩ : ∃ z, zs[j]? = some z := ⟨zs[j]'(by rw [← Hlen2.out]; exact hlt.1), List.getElem?_eq_getElem _⟩
      obtain ⟨hzl, hzb, g, o, rfl, hc⟩ := Hzs.out j z hz
      obtain ⟨u, v, rfl⟩ : ∃ u v, z = [u, v] := by
        match z, hzl with
        | [u, v], _ => exact ⟨u, v, rfl⟩
      have k0 := hc 0 u rfl
      have k1 := hc 1 v rfl
      have kb := World.block_lt_of_cell? W _ k0
      have c0 : ∀ x : Later wr, x.w.cell? ⟨g, o + j * 2, none⟩ = some (.int .u8 u) := fun x => x.cell ((H.out.below.cell (p := ⟨g, o + j * 2 + 0, none⟩) kb).trans k0)
      have c1 : ∀ x : Later wr, x.w.cell? ⟨g, o + j * 2 + 1, none⟩ = some (.int .u8 v) := fun x => x.cell ((H.out.below.cell (p := ⟨g, o + j * 2 + 1, none⟩) kb).trans k1)
      have bu : 0 ≤ u ∧ u ≤ 255 := hzb u (by simp)
      have bv : 0 ≤ v ∧ v ≤ 255 := hzb v (by simp)
      have u0 : 0 ≤ u % 2 := by omega
      have u1 : u % 2 ≤ 1 := by omega
      have v0 : 0 ≤ v % 2 := by omega
      have v1 : v % 2 ≤ 1 := by omega
      have hj0 : (0 : Int) ≤ (j : Int) := by omega
      have hj1 : (j : Int) < (len2 : Int) := by omega
      obtain ⟨lb, db, mb, lc, dc, hs⟩ := H.out.sto
      have hgood := hs.good
      have hle := hs.len
      have Hg := hid hgood
      have Hle := hid hle
      clear hc hz hzl k0 k1 kb hzb hlt hs hgood hle
      go_wp2_with fail
      refine wp_region_calm (by kernel_rfl) (by kernel_rfl) ?_
      repeat (go_big_quiet_step (fail))
      refine wpQuiet_nil ?_
      intro w4 hw4
      obtain ⟨⟨w4, hb4⟩, rfl⟩ := hw4
      replace H := hid (H.out.still hb4)
      clear c0 c1 hb4
      generalize hx : 1 + u % 2 = x at *
      generalize hy : 1 + v % 2 = y at *
      have Ix : Hid (In L x) := hid ⟨by omega, by omega⟩
      have Iy : Hid (In L y) := hid ⟨by omega, by omega⟩
      clear hx hy u0 u1 v0 v1 bu bv
      go_wp2_with fail
      refine (len_at H.out).mono ?_
      rintro e w' ⟨rfl, rfl⟩
      go_wp2_with fail
      refine (pub_calls x H.out).mono ?_
      rcases put_may Hg.out Hle.out (may_pub.2 ⟨Ix.out.lo, Ix.out.hi⟩) with ⟨p, L1, hq, hat, hext⟩ | ⟨hq, hfull⟩
      · rw [hq]
        rintro e w5 ⟨rfl, h5⟩
        replace H := hid h5
        have A := hid hat
        have E := hid hext
        clear h5 hq hat hext
        go_wp2_with fail
        refine (len_at H.out).mono ?_
        rintro e w' ⟨rfl, rfl⟩
        go_wp2_with fail
        refine (agree_calls y p H.out).mono ?_
        obtain ⟨lb, db, mb, lc, dc, hs⟩ := H.out.sto
        have ha := A.out.part hs.good (p := x) (by simp [pubT, T.parts, many])
        have e1 : agree (2 + a0 % 6) L1 y p = put (2 + a0 % 6) L1 (shaT (min y x) (max y x)) := by unfold agree; rw [if_pos ⟨(Iy.out.ext E.out).getB, by rw [A.out.getT.1]; rfl⟩, A.out.getT.1]; rfl
        rw [e1]
        rcases put_may hs.good hs.len (may_sha (a := min y x) (b := max y x) |>.2 (by have := (Iy.out.ext E.out).lo; have := (Iy.out.ext E.out).hi; have := A.out.hi; omega)) with ⟨p2, L2, hq, hat, hext⟩ | ⟨hq, hfull⟩
        · rw [hq]
          have hL' : 2 ≤ L2.length := by have := E.out.len; have := hext.len; omega
          clear hs ha e1 hq hat hext
          rintro e w6 ⟨rfl, h6⟩
          replace H := hid h6
          clear h6
          go_wp2_with fail
          go_roundw
          case rel => exact ⟨j + 1, by omega, by go_num, L2, hL', H⟩
          case measure => simp [intOf]; omega
        · rw [hq]
          have hL' : 2 ≤ L1.length := by have := E.out.len; omega
          clear hs ha e1 hq hfull
          rintro e w6 ⟨rfl, h6⟩
          replace H := hid h6
          clear h6
          go_wp2_with fail
          go_roundw
          case rel => exact ⟨j + 1, by omega, by go_num, L1, hL', H⟩
          case measure => simp [intOf]; omega
      · rw [hq]
        have f1 : ((L.length : Int) != 2 + a0 % 6) = false := by simp; omega
        rintro e w5 ⟨rfl, h5⟩
        replace H := hid h5
        clear h5 hq hfull
        go_wp2_with fail
        refine (len_at H.out).mono ?_
        rintro e w' ⟨rfl, rfl⟩
        go_wp2_with fail
        refine (agree_calls y 0 H.out).mono ?_
        have e1 : agree (2 + a0 % 6) L y 0 = (0, 1, L) := by unfold agree; rw [if_neg (fun h => by rw [(getT_out (L := L) (x := 0) (.inl (by decide))).1] at h; exact absurd h.2 (by decide))]
        rw [e1]
        rintro e w6 ⟨rfl, h6⟩
        replace H := hid h6
        clear h6 e1
        go_wp2_with fail
        go_roundw
        case rel => exact ⟨j + 1, by omega, by go_num, L, hL2, H⟩
        case measure => simp [intOf]; omega
    · have hex : decide (j < len2) = false ∨ (decide (j < len2) = true ∧ decide ((j : Int) < 12) = false) := by
        by_cases h : j < len2
        · right; exact ⟨by simpa using h, by simp; omega⟩
        · left; simpa using h
      clear hlt
      rcases hex with hd1 | ⟨hd1, hd2⟩
      all_goals
        go_wp2_with fail
        refine (fixed3_calls H.out).mono ?_
        rintro e w' ⟨rfl, h5⟩
        have H5 := hid h5
        clear h5
        go_wp2_with fail
        go_ret
        exact ⟨rfl, H5.out.below⟩
end Go.Proofs.Ytfhpgcgiogmlgaa
