/-
  Walks through the document's package of layer 8: All, Can. For every list of names and every store.
-/
import Derived.Test.YtbaliaodioflfaaKnowE
import Derived.Test.YtbaliaodioflfaaKnowL
namespace Go.Proofs.Ytbaliaodioflfaa
open Go.RowKit

/-- The first names of a list, in order. -/
def outTo (l : List Int) (q : Nat) : List Int := ((List.range q).map fun (i : Nat) => (i : Int) + 1).filter (inB l)
theorem outTo_succ (l : List Int) (q : Nat) : outTo l (q + 1) = if inB l ((q : Int) + 1) = true then outTo l q ++ [(q : Int) + 1] else outTo l q := by
  unfold outTo
  rw [List.range_succ, List.map_append, List.filter_append]
  by_cases h : inB l ((q : Int) + 1) = true
  · simp [h]
  · simp [h]
theorem outTo_le (l : List Int) (q : Nat) : (outTo l q).length ≤ q := by
  unfold outTo
  refine Nat.le_trans (List.length_filter_le _ _) ?_
  simp
theorem outTo_all {L : List T} {dh kem : Bool} {K : Int → Prop} {l : List Int} (h : ∀ x, x ∈ l ↔ Der L dh kem K x) : outTo l L.length = allOf L dh kem K := by
  unfold outTo allOf
  refine List.filter_congr fun x _ => ?_
  unfold inB
  exact decide_eq_decide.2 (h x)

/-- The known ones, each once. -/
structure Seen (L : List T) (ks : List Int) (l : List Int) : Prop where
  sub : ∀ x ∈ l, x ∈ ks
  all : ∀ x ∈ ks, x ∈ l
  inn : ∀ x ∈ ks, 1 ≤ x ∧ x ≤ (L.length : Int)
  nodup : l.Nodup
theorem Seen.start {L : List T} : Seen L [] [] := ⟨by simp, by simp, by simp, by simp⟩
theorem Seen.old {L : List T} {ks l : List Int} {j : Nat} {z : Int} (h : Seen L (ks.take j) l) (hz : ks[j]? = some z) (hr : 1 ≤ z ∧ z ≤ (L.length : Int)) (hin : inB l z = true) : Seen L (ks.take (j + 1)) l := by
  have e : ks.take (j + 1) = ks.take j ++ [z] := by rw [List.take_add_one, hz]; rfl
  have hl := of_decide_eq_true hin
  rw [e]
  refine ⟨fun x hx => List.mem_append_left _ (h.sub x hx), fun x hx => ?_, fun x hx => ?_, h.nodup⟩
  · rcases List.mem_append.1 hx with hx | hx
    · exact h.all x hx
    · simp only [List.mem_singleton] at hx; subst hx; exact hl
  · rcases List.mem_append.1 hx with hx | hx
    · exact h.inn x hx
    · simp only [List.mem_singleton] at hx; subst hx; exact hr
theorem Seen.new {L : List T} {ks l : List Int} {j : Nat} {z : Int} (h : Seen L (ks.take j) l) (hz : ks[j]? = some z) (hr : 1 ≤ z ∧ z ≤ (L.length : Int)) (hin : inB l z = false) : Seen L (ks.take (j + 1)) (l ++ [z]) := by
  have e : ks.take (j + 1) = ks.take j ++ [z] := by rw [List.take_add_one, hz]; rfl
  have hl := of_decide_eq_false hin
  rw [e]
  refine ⟨fun x hx => ?_, fun x hx => ?_, fun x hx => ?_, ?_⟩
  · rcases List.mem_append.1 hx with hx | hx
    · exact List.mem_append_left _ (h.sub x hx)
    · exact List.mem_append_right _ hx
  · rcases List.mem_append.1 hx with hx | hx
    · exact List.mem_append_left _ (h.all x hx)
    · exact List.mem_append_right _ hx
  · rcases List.mem_append.1 hx with hx | hx
    · exact h.inn x hx
    · simp only [List.mem_singleton] at hx; subst hx; exact hr
  · rw [List.nodup_append]
    refine ⟨h.nodup, by simp, fun x hx y hy e2 => ?_⟩
    simp only [List.mem_singleton] at hy
    rw [e2, hy] at hx
    exact hl hx
theorem Seen.len {L : List T} {ks l : List Int} (h : Seen L ks l) : l.length ≤ L.length := names_len h.nodup fun x hx => h.inn x (h.sub x hx)
theorem Seen.names {L : List T} {dh kem : Bool} {ks l : List Int} (h : Seen L ks l) : NmL L dh kem (fun x => x ∈ ks) l := ⟨fun x hx => .known x (h.sub x hx), h.all, fun x hx => h.inn x (h.sub x hx), h.nodup⟩

/-- Nothing is to be done at a name. -/
def Done (L : List T) (dh kem : Bool) (l : List Int) (x : Int) : Prop := inB l x = true ∨ (mkB L dh kem (inB l) (L.getD (x - 1).toNat zeroT) || apartB L l x) = false
/-- In the midst of a pass. -/
structure Mid (L : List T) (dh kem : Bool) (K : Int → Prop) (l0 : List Int) (q : Nat) (mo : Bool) (l : List Int) : Prop where
  names : NmL L dh kem K l
  grew : mo = true → l0.length < l.length
  same : mo = false → l = l0 ∧ ∀ x : Int, 1 ≤ x → x ≤ q → Done L dh kem l0 x
section
variable {L : List T} {dh kem : Bool} {K : Int → Prop} {l0 l : List Int} {q : Nat} {mo : Bool}
theorem Mid.start (h : NmL L dh kem K l0) : Mid L dh kem K l0 0 false l0 := ⟨h, fun e => (by cases e), fun _ => ⟨rfl, fun x h1 h2 => by omega⟩⟩
theorem Mid.skip (h : Mid L dh kem K l0 q mo l) (hd : Done L dh kem l ((q : Int) + 1)) : Mid L dh kem K l0 (q + 1) mo l := ⟨h.names, h.grew, fun e => by
  obtain ⟨e1, e2⟩ := h.same e
  refine ⟨e1, fun x h1 h2 => ?_⟩
  by_cases hx : x = (q : Int) + 1
  · subst hx; rw [← e1]; exact hd
  · exact e2 x h1 (by omega)⟩
theorem Mid.add (h : Mid L dh kem K l0 q mo l) (hq : q < L.length) (hno : inB l ((q : Int) + 1) = false) (hm : (mkB L dh kem (inB l) (L.getD ((q : Int) + 1 - 1).toNat zeroT) || apartB L l ((q : Int) + 1)) = true) : Mid L dh kem K l0 (q + 1) true (l ++ [(q : Int) + 1]) := by
  refine ⟨h.names.add (by omega) hno hm, fun _ => ?_, fun e => (by cases e)⟩
  rw [List.length_append]
  cases mo with
  | true => have := h.grew rfl; simp only [List.length_cons, List.length_nil]; omega
  | false => rw [(h.same rfl).1]; simp
theorem Mid.len (h : Mid L dh kem K l0 q mo l) : l.length ≤ L.length := names_len h.names.nodup h.names.inn
end
def lenV : Value → Nat
  | .slice _ n _ => n
  | _ => 0
def onV : Value → Nat
  | .bool true => 1
  | _ => 0

set_option maxRecDepth 100000 in
set_option maxHeartbeats 64000000 in
theorem ref_all {b : Nat} {L : List T} {m : Int} {ra : Option Addr} {rc : Nat} {w : World} (dh kem : Bool) (ad : Option Addr) (len cap : Nat) (ks : List Int) (hlen : len = ks.length) (hmax : len ≤ maxLen) (hks : KsIn w ad ks) (h : RStoAt w b L m ra rc) :
    Calls Try.prog 41 #[.pointer (some ⟨b, 0, none⟩), .slice ad len cap, .bool dh, .bool kem] w (AllAns L dh kem ks w) := by
  have HG := hid h.ok.good
  have hL : L.length ≤ 1048576 := by have := h.ok.m1; have := h.ok.len; omega
  have HS := hid h
  have Hlen := hid hlen
  have Hks := hid hks
  have hm2 : len ≤ 9223372036854775807 := by unfold maxLen at hmax; exact hmax
  clear hks hlen h hmax
  go_enter Try.func41, Try.ntmps41
  go_wp2_with fail
  have H0 := hid ((Hd.refl w).row_new (E := 3))
  go_loopw [10, 11] (fun v i wr => ∃ j : Nat, j ≤ len ∧ i = .int .i64 j ∧ ∃ (lad : Option Addr) (lc : Nat) (l : List Int), v = .slice lad l.length lc ∧ Hid (Seen L (ks.take j) l) ∧ Hid (Hd w wr [RowR 3 1 (.slice lad l.length lc) l.length (nums .i64 l)])) (fun _ i _ => len - (intOf i).toNat)
  case atStart => exact ⟨0, Nat.zero_le _, rfl, _, _, [], rfl, hid Seen.start, H0⟩
  case round =>
    clear H0
    obtain ⟨j, hj, rfl, lad, lc, l, rfl, SE, H⟩ := hrel
    obtain ⟨wo, hwo⟩ : ∃ wo : World, wo = wr := ⟨_, rfl⟩
    rw [← hwo] at H ⊢
    clear hwo wr
    by_cases hlt : j < len
    · have hd1 : decide ((j : Int) < (len : Int)) = true := by simp; omega
      have hd1' : decide (j < len) = true := by simp; omega
      obtain ⟨z, hz⟩ : ∃ z, ks[j]? = some z := ⟨ks[j]'(by rw [← Hlen.out]; exact hlt), List.getElem?_eq_getElem _⟩
      obtain ⟨g, o, rfl, hc⟩ := (Hks.out.later H.out.below) j z hz
      have s0 := (HS.out.later H.out.below).c0
      have Hz := hid hz
      have zj0 : (0 : Int) ≤ (j : Int) := by omega
      have zj1 : (j : Int) < (len : Int) := by omega
      have k1 : ∀ y : Later wo, y.w.cell? ⟨g, o + j, none⟩ = some (.int .i64 z) := fun y => y.cell hc
      have k2 : ∀ y : Later wo, y.w.cell? ⟨b, 0, none⟩ = some (.slice ra L.length rc) := fun y => y.cell s0
      clear hz hlt hc s0
      by_cases hr : 1 ≤ z ∧ z ≤ (L.length : Int)
      · have e1 : decide (z < 1) = false := by simp; omega
        have e2 : decide ((L.length : Int) < z) = false := by simp; omega
        go_wp2_with fail
        refine wp_region_calm (by kernel_rfl) (by kernel_rfl) ?_
        repeat (go_big_quiet_step (fail))
        refine wpQuiet_nil ?_
        intro w3 hw3
        obtain ⟨⟨w3, hb3⟩, rfl⟩ := hw3
        replace H := hid (H.out.still hb3)
        have c1 : w3.cell? ⟨g, o + j, none⟩ = some (.int .i64 z) := k1 ⟨w3, hb3⟩
        clear k1 k2 e1 e2 hb3
        obtain ⟨lad', lc', e, hn, hmx, hi⟩ := Hd.row_at H.out
        simp only [Value.slice.injEq, true_and] at e
        obtain ⟨rfl, rfl⟩ := e
        have II := hid hi
        have hll : l.length ≤ 1048576 := Nat.le_trans SE.out.len hL
        clear hi hn hmx
        go_wp2_with fail
        refine (in8_calls z II.out rfl (by omega)).mono ?_
        obtain ⟨p, hp⟩ : ∃ p, decide (z ∈ l) = p := ⟨_, rfl⟩
        rw [hp]
        rintro e w' ⟨rfl, rfl⟩
        have Ep : Hid (inB l z = p) := hid hp
        clear hp II
        cases p
        · have SE2 := hid (SE.out.new Hz.out hr Ep.out)
          obtain ⟨i0, hi0, hz0, hs0, hy0⟩ := info_i64
          have Hi0 := hid hi0
          have Hz0 := hid hz0
          have Hs0 := hid hs0
          have Hy0 := hid hy0
          clear hi0 hz0 hs0 hy0 SE Ep
          go_wp2_with (at_builtin; refine append_num (k := .i64) Try.underlying60 Hi0.out Hz0.out Hs0.out Hy0.out (by decide) rfl (.tmp 47) (.tmp 52) rfl H.out (by rfl) z (by rfl) (by omega) ?_; intro g3 c3 w5 h3)
          have H3 := hid h3
          clear h3 H c1
          go_roundw
          case rel => exact ⟨j + 1, by omega, by go_num, _, _, l ++ [z], by rw [List.length_append]; rfl, SE2, by rw [List.length_append]; exact H3⟩
          case measure => simp [intOf]; omega
        · have SE2 := hid (SE.out.old Hz.out hr Ep.out)
          clear SE Ep
          go_wp2_with fail
          go_roundw
          case rel => exact ⟨j + 1, by omega, by go_num, _, _, l, rfl, SE2, H⟩
          case measure => simp [intOf]; omega
      · have Hno : Hid (¬ ∀ x ∈ ks, 1 ≤ x ∧ x ≤ (L.length : Int)) := hid fun h => hr (h z (List.mem_of_getElem? Hz.out))
        have hex : decide (z < 1) = true ∨ (decide (z < 1) = false ∧ decide ((L.length : Int) < z) = true) := by
          by_cases h1 : z < 1
          · exact .inl (by simpa using h1)
          · exact .inr ⟨by simpa using h1, by simp; omega⟩
        clear hr
        rcases hex with e1 | ⟨e1, e2⟩
        all_goals
          go_wp2_with fail
          refine wp_region_calm (by kernel_rfl) (by kernel_rfl) ?_
          repeat (go_big_quiet_step (fail))
          refine wpQuiet_nil ?_
          intro w3 hw3
          obtain ⟨⟨w3, hb3⟩, rfl⟩ := hw3
          replace H := hid (H.out.still hb3)
          clear k1 k2 hb3
          go_wp2_with fail
          go_ret2
          exact .inr ⟨Hno.out, rfl, H.out.below⟩
    · have hd1 : decide ((j : Int) < (len : Int)) = false := by simp; omega
      have hd1' : decide (j < len) = false := by simp; omega
      have hjk : ks.take j = ks := List.take_of_length_le (by rw [← Hlen.out]; omega)
      rw [hjk] at SE
      have NM : Hid (NmL L dh kem (fun x => x ∈ ks) l) := hid SE.out.names
      have Hin := hid SE.out.inn
      clear hlt hjk SE
      go_wp2_with fail
      go_loopw [10, 12] (fun v mo wr => ∃ (mb : Bool) (lad : Option Addr) (lc : Nat) (l : List Int), v = .slice lad l.length lc ∧ mo = .bool mb ∧ Hid (NmL L dh kem (fun x => x ∈ ks) l) ∧ Hid (mb = false → ∀ x : Int, 1 ≤ x → x ≤ L.length → Done L dh kem l x) ∧ Hid (Hd w wr [RowR 3 1 (.slice lad l.length lc) l.length (nums .i64 l)])) (fun v mo _ => 2 * (L.length - lenV v) + onV mo)
      case atStart => exact ⟨true, _, _, l, rfl, rfl, NM, hid fun e => (by cases e), H⟩
      case round =>
        clear H NM
        obtain ⟨mb, lad, lc, l0, rfl, rfl, NM, CL, H⟩ := hrel
        obtain ⟨w4, hw4⟩ : ∃ wo : World, wo = wr := ⟨_, rfl⟩
        rw [← hw4] at H ⊢
        clear hw4 wr
        cases mb
        · have MEM := hid (NM.out.closed HG.out fun x hx => CL.out rfl x hx.1 hx.2)
          have hll : l0.length ≤ 1048576 := Nat.le_trans (names_len NM.out.nodup NM.out.inn) hL
          have OA : Hid (outTo l0 L.length = allOf L dh kem (fun x => x ∈ ks)) := hid (outTo_all MEM.out)
          clear CL NM MEM
          go_wp2_with fail
          have H5 := hid (H.out.row_new (E := 3))
          clear H
          go_loopw [14, 15] (fun v i wr => ∃ q : Nat, q ≤ L.length ∧ i = .int .i64 ((q : Int) + 1) ∧ Hid (Hd w wr [RowR 3 1 v (outTo l0 q).length (nums .i64 (outTo l0 q)), RowR 3 1 (.slice lad l0.length lc) l0.length (nums .i64 l0)])) (fun _ i _ => L.length + 1 - (intOf i).toNat)
          case atStart => exact ⟨0, Nat.zero_le _, rfl, H5⟩
          case round =>
            clear H5
            obtain ⟨q, hq, rfl, H⟩ := hrel
            obtain ⟨w5, hw5⟩ : ∃ wo : World, wo = wr := ⟨_, rfl⟩
            rw [← hw5] at H ⊢
            clear hw5 wr
            have s0 := (HS.out.later H.out.below).c0
            by_cases hlt : q < L.length
            · have hd1 : decide ((q : Int) + 1 ≤ (L.length : Int)) = true := by simp; omega
              have hle := outTo_le l0 q
              have hsu := hid (outTo_succ l0 q)
              obtain ⟨_, _, e, _, _, hi⟩ := Hd.row_at H.out.drop
              simp only [Value.slice.injEq, true_and] at e
              obtain ⟨rfl, rfl⟩ := e
              have II := hid hi
              clear hi
              go_wp2_with fail
              refine (in8_calls ((q : Int) + 1) II.out rfl (by omega)).mono ?_
              obtain ⟨p, hp⟩ : ∃ p, decide ((q : Int) + 1 ∈ l0) = p := ⟨_, rfl⟩
              rw [hp]
              rintro e w' ⟨rfl, rfl⟩
              have Ep : Hid (inB l0 ((q : Int) + 1) = p) := hid hp
              clear hp II
              cases p
              · have hs2 := hsu.out
                rw [Ep.out, if_neg Bool.false_ne_true] at hs2
                have Hs2 := hid hs2
                clear hs2 hsu
                go_wp2_with fail
                clear s0
                go_roundw
                case rel => exact ⟨q + 1, by omega, by go_num, by rw [Hs2.out]; exact H⟩
                case measure => simp [intOf]; omega
              · have hs2 := hsu.out
                rw [Ep.out, if_pos rfl] at hs2
                have Hs2 := hid hs2
                obtain ⟨zs, hzs⟩ : ∃ zs, outTo l0 q = zs := ⟨_, rfl⟩
                rw [hzs] at H hle Hs2
                have Hzs := hid hzs
                obtain ⟨i0, hi0, hz0, hs0, hy0⟩ := info_i64
                have Hi0 := hid hi0
                have Hz0 := hid hz0
                have Hs0 := hid hs0
                have Hy0 := hid hy0
                clear hs2 hzs hi0 hz0 hs0 hy0 hsu
                obtain ⟨zn, hzn⟩ : ∃ zn, zs.length = zn := ⟨_, rfl⟩
                rw [hzn] at H hle
                have Hzn := hid hzn
                clear hzn
                go_wp2_with (at_builtin; refine append_num (k := .i64) Try.underlying60 Hi0.out Hz0.out Hs0.out Hy0.out (by decide) rfl (.tmp 106) (.tmp 108) rfl H.out (by rfl) ((q : Int) + 1) (by rfl) (by omega) ?_; intro g3 c3 w6 h3; clear s0)
                have H3 := hid h3
                clear h3
                go_roundw
                case rel => exact ⟨q + 1, by omega, by go_num, by rw [Hs2.out, List.length_append, Hzn.out]; exact H3⟩
                case measure => simp [intOf]; omega
            · have hd1 : decide ((q : Int) + 1 ≤ (L.length : Int)) = false := by simp; omega
              have Hq : Hid (q = L.length) := hid (by omega)
              clear hlt
              go_wp2_with fail
              go_ret2
              have h1 := H.out.un2
              rw [Hq.out, OA.out] at h1
              exact .inl ⟨Hin.out, _, rfl, h1⟩
        · clear CL
          go_wp2_with fail
          go_loopw [10, 12, 13] (fun v mo i wr => ∃ (q : Nat) (mb : Bool) (lad : Option Addr) (lc : Nat) (l : List Int), q ≤ L.length ∧ i = .int .i64 ((q : Int) + 1) ∧ v = .slice lad l.length lc ∧ mo = .bool mb ∧ Hid (Mid L dh kem (fun x => x ∈ ks) l0 q mb l) ∧ Hid (Hd w wr [RowR 3 1 (.slice lad l.length lc) l.length (nums .i64 l)])) (fun _ _ i _ => L.length + 1 - (intOf i).toNat)
          case atStart => exact ⟨0, false, _, _, l0, Nat.zero_le _, rfl, rfl, rfl, hid (Mid.start NM.out), H⟩
          case round =>
            clear H
            obtain ⟨q, mb, lad, lc, l, hq, rfl, rfl, rfl, MD, H⟩ := hrel
            obtain ⟨w5, hw5⟩ : ∃ wo : World, wo = wr := ⟨_, rfl⟩
            rw [← hw5] at H ⊢
            clear hw5 wr
            have hs := HS.out.later H.out.below
            have s0 := hs.c0
            by_cases hlt : q < L.length
            · have hd1 : decide ((q : Int) + 1 ≤ (L.length : Int)) = true := by simp; omega
              have hll : l.length ≤ 1048576 := Nat.le_trans MD.out.len hL
              obtain ⟨⟨tk, ts, tn, ta, tb, tc⟩, ht⟩ : ∃ t, L[q]? = some t := ⟨L[q], List.getElem?_eq_getElem hlt⟩
              have hgd : L.getD (((q : Int) + 1 - 1).toNat) zeroT = ⟨tk, ts, tn, ta, tb, tc⟩ := by rw [show ((q : Int) + 1 - 1).toNat = q by omega, List.getD_eq_getElem?_getD, ht]; rfl
              have Hgd := hid hgd
              have hat := at_getD (L := L) (x := (q : Int) + 1) ⟨by omega, by omega⟩
              rw [hgd] at hat
              have hmay := hat.may HG.out
              have hk0 : 1 ≤ tk := hmay.1
              have hk1 : tk ≤ 11 := hmay.2.1
              obtain ⟨rg, rfl, rlt, hcl⟩ := hs.cl q _ ht
              have d0 := hcl 0 _ rfl
              have d1 := hcl 1 _ rfl
              have d2 := hcl 2 _ rfl
              have d3 := hcl 3 _ rfl
              have d4 := hcl 4 _ rfl
              have d5 := hcl 5 _ rfl
              rw [Nat.add_zero] at d0
              have zq0 : (0 : Int) ≤ (q : Int) := by omega
              have zq1 : (q : Int) < (L.length : Int) := by omega
              have hw : IntKind.i64.wrap (q : Int) = q := IntWalk.i64_in _ (by omega)
              obtain ⟨_, _, e, _, _, hi⟩ := Hd.row_at H.out
              simp only [Value.slice.injEq, true_and] at e
              obtain ⟨rfl, rfl⟩ := e
              have II := hid hi
              have INN : Hid (∀ x ∈ l, 1 ≤ x ∧ x ≤ (L.length : Int)) := hid MD.out.names.inn
              have S5 := hid hs
              clear hi hs hcl ht hgd hat hmay
              go_wp2_with fail
              refine (in8_calls ((q : Int) + 1) II.out rfl (by omega)).mono ?_
              obtain ⟨p, hp⟩ : ∃ p, decide ((q : Int) + 1 ∈ l) = p := ⟨_, rfl⟩
              rw [hp]
              rintro e w' ⟨rfl, rfl⟩
              have Ep : Hid (inB l ((q : Int) + 1) = p) := hid hp
              clear hp
              cases p
              · go_wp2_with fail
                refine (makes8_calls dh kem tk ts tn ta tb tc HG.out hk0 hk1 II.out S5.out INN.out rfl (by omega)).mono ?_
                obtain ⟨p, hp⟩ : ∃ p, mkB L dh kem (inB l) ⟨tk, ts, tn, ta, tb, tc⟩ = p := ⟨_, rfl⟩
                rw [hp]
                rintro e w6 ⟨rfl, hb6⟩
                replace H := hid (H.out.still hb6)
                replace II := hid (II.out.later hb6)
                replace S5 := hid (S5.out.later hb6)
                have Mp := hid hp
                clear hp hb6 d0 d1 d2 d3 d4 d5 s0 rlt hw
                cases p
                · go_wp2_with fail
                  refine (apart8_calls ((q : Int) + 1) II.out S5.out INN.out rfl (by omega)).mono ?_
                  obtain ⟨p, hp⟩ : ∃ p, apartB L l ((q : Int) + 1) = p := ⟨_, rfl⟩
                  rw [hp]
                  rintro e w7 ⟨rfl, hb7⟩
                  replace H := hid (H.out.still hb7)
                  have Ap := hid hp
                  clear hp hb7 II S5
                  cases p
                  · have MD2 := hid (MD.out.skip (.inr (by rw [Hgd.out, Mp.out, Ap.out]; rfl)))
                    clear MD
                    go_wp2_with fail
                    go_roundw
                    case rel => exact ⟨q + 1, mb, _, _, l, by omega, by go_num, rfl, rfl, MD2, H⟩
                    case measure => simp [intOf]; omega
                  · have MD2 := hid (MD.out.add hlt Ep.out (by rw [Hgd.out, Mp.out, Ap.out]; rfl))
                    clear MD
                    obtain ⟨i0, hi0, hz0, hs0, hy0⟩ := info_i64
                    have Hi0 := hid hi0
                    have Hz0 := hid hz0
                    have Hs0 := hid hs0
                    have Hy0 := hid hy0
                    clear hi0 hz0 hs0 hy0
                    go_wp2_with (at_builtin; refine append_num (k := .i64) Try.underlying60 Hi0.out Hz0.out Hs0.out Hy0.out (by decide) rfl (.tmp 89) (.tmp 91) rfl H.out (by rfl) ((q : Int) + 1) (by rfl) (by omega) ?_; intro g3 c3 w8 h3)
                    have H3 := hid h3
                    clear h3 H
                    go_roundw
                    case rel => exact ⟨q + 1, true, _, _, l ++ [(q : Int) + 1], by omega, by go_num, by rw [List.length_append]; rfl, rfl, MD2, by rw [List.length_append]; exact H3⟩
                    case measure => simp [intOf]; omega
                · have MD2 := hid (MD.out.add hlt Ep.out (by rw [Hgd.out, Mp.out]; rfl))
                  clear MD II S5
                  obtain ⟨i0, hi0, hz0, hs0, hy0⟩ := info_i64
                  have Hi0 := hid hi0
                  have Hz0 := hid hz0
                  have Hs0 := hid hs0
                  have Hy0 := hid hy0
                  clear hi0 hz0 hs0 hy0
                  go_wp2_with (at_builtin; refine append_num (k := .i64) Try.underlying60 Hi0.out Hz0.out Hs0.out Hy0.out (by decide) rfl (.tmp 89) (.tmp 91) rfl H.out (by rfl) ((q : Int) + 1) (by rfl) (by omega) ?_; intro g3 c3 w8 h3)
                  have H3 := hid h3
                  clear h3 H
                  go_roundw
                  case rel => exact ⟨q + 1, true, _, _, l ++ [(q : Int) + 1], by omega, by go_num, by rw [List.length_append]; rfl, rfl, MD2, by rw [List.length_append]; exact H3⟩
                  case measure => simp [intOf]; omega
              · have MD2 := hid (MD.out.skip (.inl Ep.out))
                clear MD d0 d1 d2 d3 d4 d5 II S5 rlt hw
                go_wp2_with fail
                go_roundw
                case rel => exact ⟨q + 1, mb, _, _, l, by omega, by go_num, rfl, rfl, MD2, H⟩
                case measure => simp [intOf]; omega
            · have hd1 : decide ((q : Int) + 1 ≤ (L.length : Int)) = false := by simp; omega
              have Hq : Hid (q = L.length) := hid (by omega)
              clear hlt hs
              go_wp2_with fail
              clear s0
              go_roundw
              case rel => exact ⟨mb, _, _, l, rfl, rfl, hid MD.out.names, hid fun e x h1 h2 => by
                obtain ⟨e1, e2⟩ := MD.out.same e
                rw [e1]
                exact e2 x h1 (by rw [Hq.out]; exact h2), H⟩
              case measure =>
                have h1 := MD.out.len
                cases mb with
                | true => have h2 := MD.out.grew rfl; simp [lenV, onV]; omega
                | false => rw [(MD.out.same rfl).1]; simp [lenV, onV]

open Classical in
set_option maxRecDepth 100000 in
set_option maxHeartbeats 16000000 in
theorem ref_can {b : Nat} {L : List T} {m : Int} {ra : Option Addr} {rc : Nat} {w : World} (dh kem : Bool) (ad : Option Addr) (len cap : Nat) (ks : List Int) (x : Int) (hlen : len = ks.length) (hmax : len ≤ maxLen) (hks : KsIn w ad ks) (h : RStoAt w b L m ra rc) :
    Calls Try.prog 43 #[.pointer (some ⟨b, 0, none⟩), .slice ad len cap, .bool dh, .bool kem, .int .i64 x] w (CanAns L dh kem ks x w) := by
  have hL : L.length ≤ 1048576 := by have := h.ok.m1; have := h.ok.len; omega
  have HS := hid h
  have Hlen := hid hlen
  have Hks := hid hks
  have Hmax := hid hmax
  clear hks hlen h hmax
  go_enter Try.func43, Try.ntmps43
  go_wp2_with fail
  refine (ref_all dh kem ad len cap ks Hlen.out Hmax.out Hks.out HS.out).mono ?_
  rintro e w1 (⟨hin, v, rfl, hd⟩ | ⟨hno, rfl, hb⟩)
  · have Hin := hid hin
    have H := hid hd
    obtain ⟨A, hA⟩ : ∃ A, allOf L dh kem (fun x => x ∈ ks) = A := ⟨_, rfl⟩
    rw [hA] at H
    have HA := hid hA
    have lA : A.length ≤ 1048576 := by rw [← hA]; exact Nat.le_trans allOf_len hL
    have s0 := (HS.out.later hd.below).c0
    clear hin hd hA
    obtain ⟨d_a, c_a, rfl, _, _, hi⟩ := Hd.row_at H.out
    have II := hid hi
    clear hi
    by_cases hr : 1 ≤ x ∧ x ≤ (L.length : Int)
    · have e1 : decide (x < 1) = false := by simp; omega
      have e2 : decide ((L.length : Int) < x) = false := by simp; omega
      have Hr := hid hr
      clear hr
      go_wp2_with fail
      refine (in8_calls x II.out rfl (by omega)).mono ?_
      rw [show decide (x ∈ A) = decide (Der L dh kem (fun x => x ∈ ks) x) from decide_eq_decide.2 (by rw [← HA.out, mem_allOf]; exact ⟨fun h => h.2, fun h => ⟨Hr.out, h⟩⟩)]
      rintro e w' ⟨rfl, rfl⟩
      clear s0
      go_wp2_with fail
      go_ret2
      exact ⟨H.out.below, .inl ⟨Hin.out, Hr.out, rfl⟩⟩
    · have Hr := hid hr
      have hex : decide (x < 1) = true ∨ (decide (x < 1) = false ∧ decide ((L.length : Int) < x) = true) := by
        by_cases h1 : x < 1
        · exact .inl (by simpa using h1)
        · exact .inr ⟨by simpa using h1, by simp; omega⟩
      clear hr
      rcases hex with e1 | ⟨e1, e2⟩
      all_goals
        go_wp2_with fail
        clear s0
        go_ret2
        exact ⟨H.out.below, .inr (.inl ⟨Hin.out, Hr.out, rfl⟩)⟩
  · have Hno := hid hno
    have Hb := hid hb
    clear hno hb
    go_wp2_with fail
    go_ret2
    exact ⟨Hb.out, .inr (.inr ⟨Hno.out, rfl⟩)⟩
end Go.Proofs.Ytbaliaodioflfaa
