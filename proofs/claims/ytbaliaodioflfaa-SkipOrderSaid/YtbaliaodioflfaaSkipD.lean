/-
  Walks through what layer 16 takes of the library: Clone. For every cache.
-/
import Derived.Test.YtbaliaodioflfaaSkipC
import Derived.Test.YtbaliaodioflfaaKnowN
import Derived.Lib.SliceRun
namespace Go.Proofs.Ytbaliaodioflfaa
open Go.RowKit

theorem eq_none (w : World) (c : Nat) : (binOp .eql 83 (.slice none 0 c) (.slice none 0 0)).run Try.prog w = .ok (.bool true) w := Lib.run_eql_slice_nil w _ _ _ _ _ _ _ Try.underlying83
theorem eq_some (w : World) (p : Addr) (n c : Nat) : (binOp .eql 83 (.slice (some p) n c) (.slice none 0 0)).run Try.prog w = .ok (.bool false) w := Lib.run_eql_slice_nil w _ _ _ _ _ _ _ Try.underlying83

set_option maxRecDepth 100000 in
set_option maxHeartbeats 4000000 in
theorem clone_calls {es : List En} {v : Value} {w : World} (h : CaAt w v es) (hm : es.length ≤ 1000) :
    Calls Try.prog 87 #[v] w fun e w' => ∃ v', e = .returned v' ∧ Hd w w' [RowR 91 4 v' es.length (ensC es)] := by
  obtain ⟨ad, cap, rfl, hat, hnil⟩ := h.ex
  clear h
  cases ad with
  | none =>
    obtain ⟨rfl, rfl⟩ := hnil rfl
    have q := fun w => eq_none w 0
    go_enter Try.func87, Try.ntmps87
    go_wp2_with fail
    go_ret
    exact ⟨_, rfl, (Hd.refl w).row_nilS⟩
  | some p =>
    clear hnil
    have HE := hid hat
    clear hat
    by_cases he : es = []
    · subst he
      go_enter Try.func87, Try.ntmps87
      have q := fun w => eq_some w p 0 cap
      obtain ⟨i, hi, hz, hsz, hby⟩ := info_E
      have Hi := hid hi
      clear hi hz hsz hby
      go_wp2_with (at_builtin; refine append_zero Try.underlying83 Hi.out rfl (.tmp 5) (.tmp 6) rfl (by rfl) (Nat.le_refl _) (by rfl) ?_)
      go_ret
      exact ⟨_, rfl, (Hd.refl w).row_newS⟩
    · have hlp : 0 < es.length := List.length_pos_iff.2 he
      obtain ⟨g, o, sp⟩ := p
      have hsp : sp = none := by
        obtain ⟨e, hh⟩ : ∃ e, es[0]? = some e := ⟨es[0], List.getElem?_eq_getElem hlp⟩
        obtain ⟨g2, o2, ha, _⟩ := HE.out 0 e hh
        cases ha
        rfl
      subst hsp
      clear he
      have q := fun w => eq_some w ⟨g, o, none⟩ es.length cap
      have H1 := hid ((Hd.refl w).row_newS (E := 91) (size := 4))
      have HE1 := hid (HE.out.later H1.out.below)
      go_enter Try.func87, Try.ntmps87
      go_wp2_with (at_builtin; refine append_ens (es := []) (fs := es) rfl (.tmp 5) (.tmp 6) rfl hlp H1.out HE1.out (by rfl) (by rfl) (by omega) ?_; intro g3 c3 w3 h3; simp only [Nat.zero_add, List.nil_append] at h3 ⊢; have H3 := hid h3; clear h3)
      go_ret
      exact ⟨_, rfl, H3.out⟩
end Go.Proofs.Ytbaliaodioflfaa
