/-
  Walks: text's machine: its cells; add; begin; first at an x.
-/
import Derived.Test.YtbblbolpcdkggaaGreatFmtC1
import Derived.Test.YtbblbolpcdkggaaGreatFmtC2
import Derived.StillTailTactics
import Derived.Lib.AtoiErrMem
namespace Go.Proofs.YtbblbolpcdkggaaGreatFmt
open Go.RowKit
/-- The machine's cells: text, place, sign, size, terms, not wrong. -/
structure Cs (s : ByteArray) (p : Nat) (b : Bool) (sz : Value) (Z : Nat) (cs : Array Value) : Prop where
  size : cs.size = 70
  c0 : cs[0]? = some (.string s)
  c1 : cs[1]? = some (.int .i64 p)
  c2 : cs[2]? = some (.bool b)
  c3 : cs[3]? = some sz
  ts : ∀ k, k < 65 → cs[4 + k]? = some (.pointer (some ⟨Z + k, 0, none⟩))
  c69 : cs[69]? = some (.bool false)
theorem Cs.at_ {s : ByteArray} {p : Nat} {b : Bool} {sz : Value} {Z : Nat} {cs : Array Value} (h : Cs s p b sz Z cs) (q : Nat) : Cs s q b sz Z (cs.setIfInBounds 1 (.int .i64 q)) := by
  refine ⟨by simp [h.size], ?_, ?_, ?_, ?_, fun k hk => ?_, ?_⟩
  · rw [Array.getElem?_setIfInBounds, if_neg (by decide)]; exact h.c0
  · rw [Array.getElem?_setIfInBounds, if_pos rfl, if_pos (by rw [h.size]; decide)]
  · rw [Array.getElem?_setIfInBounds, if_neg (by decide)]; exact h.c2
  · rw [Array.getElem?_setIfInBounds, if_neg (by decide)]; exact h.c3
  · rw [Array.getElem?_setIfInBounds, if_neg (by omega)]; exact h.ts k hk
  · rw [Array.getElem?_setIfInBounds, if_neg (by decide)]; exact h.c69
theorem Cs.below {s : ByteArray} {p : Nat} {b : Bool} {sz : Value} {Z : Nat} {cs : Array Value} (h : Cs s p b sz Z cs) (c : Bool) : Cs s p c sz Z (cs.setIfInBounds 2 (.bool c)) := by
  refine ⟨by simp [h.size], ?_, ?_, ?_, ?_, fun k hk => ?_, ?_⟩
  · rw [Array.getElem?_setIfInBounds, if_neg (by decide)]; exact h.c0
  · rw [Array.getElem?_setIfInBounds, if_neg (by decide)]; exact h.c1
  · rw [Array.getElem?_setIfInBounds, if_pos rfl, if_pos (by rw [h.size]; decide)]
  · rw [Array.getElem?_setIfInBounds, if_neg (by decide)]; exact h.c3
  · rw [Array.getElem?_setIfInBounds, if_neg (by omega)]; exact h.ts k hk
  · rw [Array.getElem?_setIfInBounds, if_neg (by decide)]; exact h.c69
theorem Cs.sized {s : ByteArray} {p : Nat} {b : Bool} {sz : Value} {Z : Nat} {cs : Array Value} (h : Cs s p b sz Z cs) (v : Value) : Cs s p b v Z (cs.setIfInBounds 3 v) := by
  refine ⟨by simp [h.size], ?_, ?_, ?_, ?_, fun k hk => ?_, ?_⟩
  · rw [Array.getElem?_setIfInBounds, if_neg (by decide)]; exact h.c0
  · rw [Array.getElem?_setIfInBounds, if_neg (by decide)]; exact h.c1
  · rw [Array.getElem?_setIfInBounds, if_neg (by decide)]; exact h.c2
  · rw [Array.getElem?_setIfInBounds, if_pos rfl, if_pos (by rw [h.size]; decide)]
  · rw [Array.getElem?_setIfInBounds, if_neg (by omega)]; exact h.ts k hk
  · rw [Array.getElem?_setIfInBounds, if_neg (by decide)]; exact h.c69
/-- The machine at a place of its text. -/
def St (w : World) (M : Nat) (s : ByteArray) (p : Nat) (b : Bool) (sz : Value) (Z : Nat) : Prop := ∃ cs, Blk w M 65 cs ∧ Cs s p b sz Z cs
theorem St.tch {w w' : World} {M p Z : Nat} {s : ByteArray} {b : Bool} {sz : Value} {S : Nat → Prop} (h : St w M s p b sz Z) (ht : Tch S w w') (hs : ¬ S M) : St w' M s p b sz Z := by
  obtain ⟨cs, h1, h2⟩ := h
  exact ⟨cs, h1.tch ht hs, h2⟩
theorem St.of_mach {w w' : World} {M p q Z : Nat} {s : ByteArray} {b : Bool} {sz : Value} {cs : Array Value} (h : Cs s p b sz Z cs) (hm : Mach w' M s q (cs.setIfInBounds 1 (.int .i64 q))) : St w' M s q b sz Z := ⟨_, hm.1, h.at_ q⟩
def AddedOut (w : World) (T : Nat) (neg : Bool) (x : Int) (S : Nat → Prop) (e : Ending) (w' : World) : Prop := e = .returned (.tuple #[]) ∧ BI w' T neg x ∧ Tch S w w'
set_option maxRecDepth 100000 in
set_option maxHeartbeats 1000000 in
theorem add_two (w : World) (M Y Z p : Nat) (s : ByteArray) (h : St w M s p false (.pointer (some ⟨Y, 0, none⟩)) Z) (hT : Blk w (Z + 2) 69 #[.bool false, .slice none 0 0]) (hY : BI w Y false 1) :
    Calls Tryz.prog 77 #[.pointer (some ⟨M, 0, none⟩), .int .i64 2] w (AddedOut w (Z + 2) false 1 (· = Z + 2)) := by
  have ha := iadd_pos w.drew (Z + 2) Y 1 hT hY
  have Ha := Lib.hid ha; clear ha hT hY
  obtain ⟨cs, hb, hc⟩ := h
  have c2 : w.cell? ⟨M, 2, none⟩ = some (.bool false) := (hb.cell 2).trans hc.c2
  have c3 : w.cell? ⟨M, 3, none⟩ = some (.pointer (some ⟨Y, 0, none⟩)) := (hb.cell 3).trans hc.c3
  have c6 : w.cell? ⟨M, 6, none⟩ = some (.pointer (some ⟨Z + 2, 0, none⟩)) := (hb.cell 6).trans (hc.ts 2 (by decide))
  clear hb hc
  go_enter Tryz.func77, Tryz.ntmps77
  go_wp2
  go_still_tail 16, (by kernel_rfl)
  change wpList _ _ _ _ _ w.drew
  go_wp2_with (go_at_call 92; refine Ha.out.mono ?_; rintro e w1 ⟨rfl, h1, h2⟩)
  go_returns
  exact ⟨rfl, h1, ((Tch.refl _ w).drew).then h2⟩
set_option maxRecDepth 100000 in
set_option maxHeartbeats 1000000 in
theorem add_zero (w : World) (M Y Z p : Nat) (s : ByteArray) (h : St w M s p true (.pointer (some ⟨Y, 0, none⟩)) Z) (hT : Blk w Z 69 #[.bool false, .slice none 0 0]) (hY : BI w Y false 2) (hne : Z ≠ Y) :
    Calls Tryz.prog 77 #[.pointer (some ⟨M, 0, none⟩), .int .i64 0] w (AddedOut w Z true 2 (fun k => k = Y ∨ k = Z)) := by
  have ha := ineg_pos w.drew Y 2 hY
  have Ha := Lib.hid ha; clear ha
  have hMY : M ≠ Y := by obtain ⟨cs, hb, hc⟩ := h; obtain ⟨v, hv, _⟩ := hY; exact hb.ne_ hv (by decide)
  have H := Lib.hid h
  obtain ⟨cs, hb, hc⟩ := h
  have c2 : w.cell? ⟨M, 2, none⟩ = some (.bool true) := (hb.cell 2).trans hc.c2
  have c3 : w.cell? ⟨M, 3, none⟩ = some (.pointer (some ⟨Y, 0, none⟩)) := (hb.cell 3).trans hc.c3
  have HT := Lib.hid hT
  clear hb hc hT hY
  go_enter Tryz.func77, Tryz.ntmps77
  go_wp2
  go_still_tail 8, (by kernel_rfl)
  change wpList _ _ _ _ _ w.drew
  go_wp2_with (go_at_call 91; refine Ha.out.mono ?_)
  rintro e w1 ⟨rfl, hY1, ht0⟩
  have ht1 : Tch (· = Y) w w1 := ((Tch.refl _ w).drew).then ht0
  have hT1 : Blk w1 Z 69 #[.bool false, .slice none 0 0] := HT.out.tch ht1 (fun e => hne e)
  have ha := iadd_neg w1.drew Z Y 2 hT1 hY1
  have Ha1 := Lib.hid ha; clear ha hY1
  obtain ⟨cs, hb, hc⟩ := H.out.tch ht1 hMY
  have c3 : w1.cell? ⟨M, 3, none⟩ = some (.pointer (some ⟨Y, 0, none⟩)) := (hb.cell 3).trans hc.c3
  have c4 : w1.cell? ⟨M, 4, none⟩ = some (.pointer (some ⟨Z, 0, none⟩)) := (hb.cell 4).trans (hc.ts 0 (by decide))
  clear hb hc hT1
  go_wp2
  go_still_tail 16, (by kernel_rfl)
  change wpList _ _ _ _ _ w1.drew
  go_wp2_with (go_at_call 92; refine Ha1.out.mono ?_; rintro e w2 ⟨rfl, h1, h2⟩)
  go_returns
  exact ⟨rfl, h1, ((ht1.mono (fun k e => .inl e)).drew).trans h2 (fun k _ e => .inr e)⟩
def StateIs (f : Nat) (w : World) (M : Nat) (s : ByteArray) (p : Nat) (b : Bool) (sz : Value) (Z : Nat) (S : Nat → Prop) (e : Ending) (w' : World) : Prop := e = .returned (.func (.func f) #[] #[]) ∧ St w' M s p b sz Z ∧ Tch S w w'
set_option maxRecDepth 100000 in
set_option maxHeartbeats 1000000 in
theorem begin_x (w : World) (M Z : Nat) (s : ByteArray) (sz : Value) (h : St w M s 0 false sz Z) (h0 : 0 < s.size) (h120 : (s[0].toNat : Int) = 120) :
    Calls Tryz.prog 28 #[.pointer (some ⟨M, 0, none⟩)] w (StateIs 42 w M s 0 false sz Z (· = M)) := by
  obtain ⟨cs, hb, hc⟩ := h
  have hp := peek_stay w M s 0 cs ⟨hb, hc.c0, hc.c1⟩ h0 (by rw [h120]; rfl) (by rw [h120]; rfl)
  rw [h120] at hp
  have Hp := Lib.hid hp
  have Hc := Lib.hid hc
  clear hp hb hc h120
  go_enter Tryz.func28, Tryz.ntmps28
  go_wp2_with (go_at_call 41; refine Hp.out.mono ?_; rintro e w1 ⟨rfl, h1, h2⟩)
  go_returns
  exact ⟨rfl, ⟨_, h1.1, Hc.out⟩, h2⟩
def FirstOut (w : World) (M : Nat) (s : ByteArray) (p : Nat) (b : Bool) (Z : Nat) (e : Ending) (w' : World) : Prop := ∃ Y, StateIs 63 w M s p b (.pointer (some ⟨Y, 0, none⟩)) Z (· = M) e w' ∧ w.heap.size ≤ Y ∧ BI w' Y false 1
theorem isDigit_no (w : World) (c : Int) (h : (57 : Int) < c) : Calls Tryz.prog 57 #[.int .u8 c] w fun e w' => e = .returned (.bool false) ∧ w' = w := by
  have h1 : decide (c ≤ 57) = false := by rw [decide_eq_false_iff_not]; omega
  go_enter Tryz.func57, Tryz.ntmps57
  go_wp2
  go_ret
  exact ⟨rfl, rfl⟩
set_option maxRecDepth 100000 in
set_option maxHeartbeats 1000000 in
theorem first_x (w : World) (M Z : Nat) (s : ByteArray) (sz : Value) (h : St w M s 0 false sz Z) (h0 : 0 < s.size) (h120 : (s[0].toNat : Int) = 120) :
    Calls Tryz.prog 42 #[.pointer (some ⟨M, 0, none⟩)] w (FirstOut w M s 0 false Z) := by
  obtain ⟨cs, hb, hc⟩ := h
  have hp := peek_stay w M s 0 cs ⟨hb, hc.c0, hc.c1⟩ h0 (by rw [h120]; rfl) (by rw [h120]; rfl)
  rw [h120] at hp
  have Hp := Lib.hid hp
  have Hc := Lib.hid hc
  clear hp hb hc h120
  go_enter Tryz.func42, Tryz.ntmps42
  go_wp2_with (first | (go_at_call 41; refine Hp.out.mono ?_; rintro e w1 ⟨rfl, h1, h2⟩) | (go_at_call 57; refine (isDigit_no _ _ (by decide)).mono ?_; rintro e w' ⟨rfl, rfl⟩) | (go_at_call 62; refine (newInt_one _).mono ?_))
  rintro e w2 ⟨Y, rfl, hY, hB, ht⟩
  have hs := h2.size
  have hb2 := h1.1.tch ht (fun e => e)
  have f3 := hb2.frozen 3
  have c3 := (hb2.cell 3).trans Hc.out.c3
  have hMY : M ≠ Y := by obtain ⟨v, hv, _⟩ := hB; exact hb2.ne_ hv (by decide)
  have hb3 := hb2.set_ 3 (.pointer (some ⟨Y, 0, none⟩))
  have ht3 : Tch (· = M) w (w2.setCell ⟨M, 3, none⟩ (.pointer (some ⟨Y, 0, none⟩))) := (h2.then (ht.nil _)).setCell (fun _ => rfl) _
  have hB3 : BI (w2.setCell ⟨M, 3, none⟩ (.pointer (some ⟨Y, 0, none⟩))) Y false 1 := hB.tch (S := (· = M)) ((Tch.refl (· = M) w2).setCell (p := ⟨M, 3, none⟩) (fun _ => rfl) _) (fun e => hMY e.symm) (fun k hk e => by subst e; exact hb2.ne_ hk (by decide) rfl)
  have Hb3 := Lib.hid hb3
  have Ht3 := Lib.hid ht3
  have HB3 := Lib.hid hB3
  clear hb2 hb3 ht3 hB3 hB ht h1 h2
  go_wp2
  go_returns
  exact ⟨Y, ⟨rfl, ⟨_, Hb3.out, Hc.out.sized _⟩, Ht3.out⟩, by omega, HB3.out⟩
end Go.Proofs.YtbblbolpcdkggaaGreatFmt
/-
  Walks: text's machine: number within a text; power, next, first at a digit, behind.
-/
namespace Go.Proofs.YtbblbolpcdkggaaGreatFmt
open Go.RowKit
theorem isDigit_low (w : World) (c : Int) (h : c < 48) : Calls Tryz.prog 57 #[.int .u8 c] w fun e w' => e = .returned (.bool false) ∧ w' = w := by
  go_enter Tryz.func57, Tryz.ntmps57
  go_wp2
  go_ret
  exact ⟨rfl, rfl⟩
set_option maxRecDepth 100000 in
set_option maxHeartbeats 2000000 in
theorem number_mid (w : World) (M : Nat) (s : ByteArray) (p : Nat) (cs : Array Value) (h : Mach w M s p cs) (q : Nat) (hpq : p + 1 = q) (hp0 : p < s.size) (hq : q < 4294967296) (hqs : q < s.size) (hd1 : (48 : Int) ≤ s[p].toNat) (hd2 : (s[p].toNat : Int) ≤ 57)
    (hl : (s[q].toNat : Int) < 48) (hz : Lib.trimLeftB (s.extract p q).data.toList 48 = [50]) :
    Calls Tryz.prog 58 #[.pointer (some ⟨M, 0, none⟩)] w (NumberOut w M s p q cs ⟨#[50]⟩) := by
  have h2 := h.size
  have Hh := Lib.hid h; clear h
  have c1 : w.cell? ⟨M, 1, none⟩ = some (.int .i64 p) := (Hh.out.1.cell 1).trans Hh.out.2.2
  have hqle : (q : Int) < (s.size : Int) := by omega
  have Hz := Lib.hid hz; clear hz
  go_enter Tryz.func58, Tryz.ntmps58
  go_wp2
  go_loopw [] (fun wr => ((Mach wr M s p cs ∧ Tch (· = M) w wr) ∨ (Mach wr M s q (cs.setIfInBounds 1 (.int .i64 q)) ∧ Tch (· = M) w wr))) (fun wr => match wr.cell? ⟨M, 1, none⟩ with | some (.int _ x) => (q - x.toNat) | _ => 0)
  case atStart => exact .inl ⟨Hh.out, Tch.refl _ _⟩
  case round =>
    rcases hrel with ⟨hm, ht⟩ | ⟨hm, ht⟩
    · have c0 : wr.cell? ⟨M, 0, none⟩ = some (.string s) := (hm.1.cell 0).trans hm.2.1
      have c1 : wr.cell? ⟨M, 1, none⟩ = some (.int .i64 p) := (hm.1.cell 1).trans hm.2.2
      have f1 := hm.1.frozen 1
      have Hm := Lib.hid hm; clear hm
      have Ht := Lib.hid ht; clear ht
      have hpI : (p : Int) + 1 = (q : Int) := by omega
      go_wp2
      go_quiet ((go_at_call 57; refine Calls.quiet_of_same (isDigit_yes _ _ (by omega) (by omega))))
      go_wp2
      go_roundw
      case rel =>
        refine .inr ?_
        have hm2 : Mach (wr.drewN nq) M s p cs := Hm.out
        have := hm2.moved (q := q) h2
        exact ⟨this, (Ht.out.drewN _).setCell (fun _ => rfl) _⟩
      case measure =>
        have hm2 : Mach (wr.drewN nq) M s p cs := Hm.out
        have h3 := hm2.moved (q := q) h2
        have e1 := (h3.1.cell 1).trans h3.2.2
        rw [e1, c1]; simp; omega
    · have c0 : wr.cell? ⟨M, 0, none⟩ = some (.string s) := (hm.1.cell 0).trans hm.2.1
      have c1 : wr.cell? ⟨M, 1, none⟩ = some (.int .i64 q) := (hm.1.cell 1).trans hm.2.2
      have Hm := Lib.hid hm; clear hm
      have Ht := Lib.hid ht; clear ht
      have hps : (p : Int) ≤ (q : Int) := by omega
      have hqs2 : (q : Int) ≤ (s.size : Int) := by omega
      go_wp2
      go_quiet ((go_at_call 57; refine Calls.quiet_of_same (isDigit_low _ _ (by omega))))
      go_wp2
      go_quiet ((go_at_call 74; refine (Tryz.strings_TrimLeft_one (s.extract p q) 48 (by decide) _).mono ?_; rintro e w' ⟨rfl, rfl⟩; exact ⟨rfl, _, rfl⟩))
      rw [Hz.out]
      go_wp2
      go_ret2
      exact ⟨rfl, ⟨Hm.out.1, Hm.out.2⟩, (Ht.out.drewN _)⟩
theorem St.step {w w' : World} {M p q Z : Nat} {s : ByteArray} {b : Bool} {sz : Value} (h : St w M s p b sz Z) (hw : w' = w.setCell ⟨M, 1, none⟩ (.int .i64 q)) : St w' M s q b sz Z := by
  obtain ⟨cs, h1, h2⟩ := h
  exact ⟨_, by rw [hw]; exact h1.set_ 1 _, h2.at_ q⟩
theorem atoi_two (w : World) : Calls Tryz.prog 79 #[.string ⟨#[50]⟩] w fun e w' => e = .returned (.tuple #[.int .i64 2, .nilIface]) ∧ Tch Nil w w' := by
  refine (Tryz.strconv_Atoi ⟨#[50]⟩ 2 (by decide) (by decide +kernel) w).mono ?_
  rintro e w' ⟨rfl, t, rfl⟩
  exact ⟨rfl, Tch.of_whole (Lib.bytesWorld_below _ _ _)⟩
def sx : ByteArray := ⟨#[120, 94, 50, 32, 45, 32, 50]⟩
theorem sx_size : sx.size = 7 := rfl
theorem sx0 (h : 0 < sx.size) : ((sx[0]'h).toNat : Int) = 120 := rfl
theorem sx1 (h : 1 < sx.size) : ((sx[1]'h).toNat : Int) = 94 := rfl
theorem sx2 (h : 2 < sx.size) : ((sx[2]'h).toNat : Int) = 50 := rfl
theorem sx3 (h : 3 < sx.size) : ((sx[3]'h).toNat : Int) = 32 := rfl
theorem sx4 (h : 4 < sx.size) : ((sx[4]'h).toNat : Int) = 45 := rfl
theorem sx5 (h : 5 < sx.size) : ((sx[5]'h).toNat : Int) = 32 := rfl
theorem sx6 (h : 6 < sx.size) : ((sx[6]'h).toNat : Int) = 50 := rfl
def PowOut (w : World) (M Y Z : Nat) (e : Ending) (w' : World) : Prop :=
  e = .returned (.func (.func 78) #[] #[]) ∧ St w' M sx 3 false (.pointer (some ⟨Y, 0, none⟩)) Z ∧ BI w' (Z + 2) false 1 ∧ Tch (fun k => k = M ∨ k = Z + 2) w w'
set_option maxRecDepth 100000 in
set_option maxHeartbeats 2000000 in
theorem power_two (w : World) (M Y Z : Nat) (h : St w M sx 0 false (.pointer (some ⟨Y, 0, none⟩)) Z) (hT : Blk w (Z + 2) 69 #[.bool false, .slice none 0 0]) (hY : BI w Y false 1) :
    Calls Tryz.prog 63 #[.pointer (some ⟨M, 0, none⟩)] w (PowOut w M Y Z) := by
  obtain ⟨cs, hb, hc⟩ := h
  have h1 := hc.at_ 1
  have hb1 := hb.set_ 1 (.int .i64 (1 : Nat))
  have hp := peek_stay _ M sx 1 _ ⟨hb1, h1.c0, h1.c1⟩ (by decide) (by rw [sx1]; rfl) (by rw [sx1]; rfl)
  rw [sx1] at hp
  have c1 : w.cell? ⟨M, 1, none⟩ = some (.int .i64 0) := (hb.cell 1).trans hc.c1
  have f1 := hb.frozen 1
  have hMT : M ≠ Z + 2 := hb.ne_ hT (by decide)
  have hMY : M ≠ Y := by obtain ⟨v, hv, _⟩ := hY; exact hb.ne_ hv (by decide)
  have hMg : ∀ k x, Blk w k 111 x → M ≠ k := fun k x hx => hb.ne_ hx (by decide)
  have HMg := Lib.hid hMg
  have Hp := Lib.hid hp
  have H1 := Lib.hid h1
  have HT := Lib.hid hT
  have HY := Lib.hid hY
  clear hp hb1 hb hc h1 hMg hT hY
  go_enter Tryz.func63, Tryz.ntmps63
  go_wp2_with (go_at_call 41; refine Hp.out.mono ?_)
  rintro e w1 ⟨rfl, hm, ht⟩
  have ht1 : Tch (· = M) w w1 := ((Tch.refl (· = M) w).setCell (p := ⟨M, 1, none⟩) (fun _ => rfl) _).then ht
  have c1 : w1.cell? ⟨M, 1, none⟩ = some (.int .i64 1) := (hm.1.cell 1).trans hm.2.2
  have f1 := hm.1.frozen 1
  have h2 := H1.out.at_ 2
  have hb2 := hm.1.set_ 1 (.int .i64 (2 : Nat))
  have hp := peek_stay _ M sx 2 _ ⟨hb2, h2.c0, h2.c1⟩ (by decide) (by rw [sx2]; rfl) (by rw [sx2]; rfl)
  rw [sx2] at hp
  have Hp2 := Lib.hid hp
  have H2 := Lib.hid h2
  have Ht1 := Lib.hid ht1
  clear hp hb2 h2 hm ht ht1
  go_wp2_with (go_at_call 41; refine Hp2.out.mono ?_)
  rintro e w2 ⟨rfl, hm, ht⟩
  have hn := number_mid w2 M sx 2 _ hm 3 rfl (by decide) (by decide) (by decide) (by rw [sx2]; decide) (by rw [sx2]; decide) (by rw [sx3]; decide) (by decide +kernel)
  have Hn := Lib.hid hn
  have Ht2 := Lib.hid ((Ht1.out.setCell (p := ⟨M, 1, none⟩) (fun _ => rfl) _).then ht)
  clear hn hm ht
  go_wp2_with (first | (go_at_call 57; refine (isDigit_yes _ _ (by decide) (by decide)).mono ?_; rintro e w' ⟨rfl, rfl⟩) | (go_at_call 58; refine Hn.out.mono ?_))
  rintro e w3 ⟨rfl, hm, ht⟩
  have Ht3 := Lib.hid (Ht2.out.then ht)
  have H3 := Lib.hid (p := St w3 M sx 3 false (.pointer (some ⟨Y, 0, none⟩)) Z) ⟨_, hm.1, H2.out.at_ 3⟩
  clear hm ht
  go_wp2_with (go_at_call 79; refine (atoi_two _).mono ?_)
  rintro e w4 ⟨rfl, ht⟩
  have ht4 : Tch (· = M) w w4 := Ht3.out.then (ht.nil _)
  have ha := add_two w4 M Y Z 3 sx (H3.out.tch ht (fun e => e)) (HT.out.tch ht4 (fun e => hMT e.symm)) (HY.out.tch ht4 (fun e => hMY e.symm) (fun k hk e => HMg.out k _ hk e.symm))
  have Ha := Lib.hid ha
  have Ht4 := Lib.hid ht4
  have H4 := Lib.hid (H3.out.tch ht (fun e => e))
  clear ha ht4 ht
  go_wp2_with (go_at_call 77; refine Ha.out.mono ?_)
  rintro e w5 ⟨rfl, h5, ht5⟩
  have H5 := Lib.hid h5
  have Ht5 := Lib.hid ht5
  clear h5 ht5
  go_wp2
  go_returns
  exact ⟨rfl, H4.out.tch Ht5.out hMT, H5.out, (Ht4.out.mono fun k e => .inl e).trans Ht5.out (fun k _ e => .inr e)⟩
end Go.Proofs.YtbblbolpcdkggaaGreatFmt
/-
  Walks: text's machine: next at a minus; first at a digit; behind at the end; next at the end.
-/
namespace Go.Proofs.YtbblbolpcdkggaaGreatFmt
open Go.RowKit
set_option maxRecDepth 100000 in
set_option maxHeartbeats 2000000 in
theorem next_minus (w : World) (M Z : Nat) (sz : Value) (h : St w M sx 3 false sz Z) :
    Calls Tryz.prog 78 #[.pointer (some ⟨M, 0, none⟩)] w (StateIs 42 w M sx 5 true sz Z (· = M)) := by
  obtain ⟨cs, hb, hc⟩ := h
  have hp := peek_blank w M sx 3 cs ⟨hb, hc.c0, hc.c1⟩ 4 rfl (by decide) (by decide) (by decide) (by rw [sx3]; rfl) (by rw [sx4]; rfl) (by rw [sx4]; rfl)
  rw [sx4] at hp
  have Hp := Lib.hid hp
  have Hc := Lib.hid hc
  clear hp hb hc
  go_enter Tryz.func78, Tryz.ntmps78
  go_wp2_with (go_at_call 41; refine Hp.out.mono ?_)
  rintro e w1 ⟨rfl, hm, ht⟩
  have c1 : w1.cell? ⟨M, 1, none⟩ = some (.int .i64 4) := (hm.1.cell 1).trans hm.2.2
  have c2 : w1.cell? ⟨M, 2, none⟩ = some (.bool false) := (hm.1.cell 2).trans (Hc.out.at_ 4).c2
  have f1 := hm.1.frozen 1
  have f2 := hm.1.frozen 2
  have Hm := Lib.hid hm
  have Ht := Lib.hid ht
  clear hm ht
  go_wp2
  go_returns
  exact ⟨rfl, ⟨_, (Hm.out.1.set_ 2 (.bool true)).set_ 1 (.int .i64 5), ((Hc.out.at_ 4).below true).at_ 5⟩, (Ht.out.setCell (p := ⟨M, 2, none⟩) (fun _ => rfl) _).setCell (p := ⟨M, 1, none⟩) (fun _ => rfl) _⟩
def FirstTwo (w : World) (M Z : Nat) (e : Ending) (w' : World) : Prop := ∃ Y, StateIs 61 w M sx 7 true (.pointer (some ⟨Y, 0, none⟩)) Z (· = M) e w' ∧ w.heap.size ≤ Y ∧ BI w' Y false 2
set_option maxRecDepth 100000 in
set_option maxHeartbeats 2000000 in
theorem first_two_ (w : World) (M Z : Nat) (sz : Value) (a : Addr) (h : St w M sx 5 true sz Z) (hM : 0 < M) (hE : w.cell? ⟨0, 0, none⟩ = some (.iface 243 (.pointer (some a)))) :
    Calls Tryz.prog 42 #[.pointer (some ⟨M, 0, none⟩)] w (FirstTwo w M Z) := by
  obtain ⟨cs, hb, hc⟩ := h
  have hp := peek_blank w M sx 5 cs ⟨hb, hc.c0, hc.c1⟩ 6 rfl (by decide) (by decide) (by decide) (by rw [sx5]; rfl) (by rw [sx6]; rfl) (by rw [sx6]; rfl)
  rw [sx6] at hp
  have Hp := Lib.hid hp
  have Hc := Lib.hid hc
  have HE := Lib.hid hE
  clear hp hb hc hE
  go_enter Tryz.func42, Tryz.ntmps42
  go_wp2_with (go_at_call 41; refine Hp.out.mono ?_)
  rintro e w1 ⟨rfl, hm, ht⟩
  have hn := number_last w1 M sx 6 _ hm 7 rfl (by decide) (by decide) rfl (by rw [sx6]; decide) (by rw [sx6]; decide) (by decide +kernel)
  have Hn := Lib.hid hn
  have Ht1 := Lib.hid ht
  have Hc1 := Lib.hid (Hc.out.at_ 6)
  clear hn hm ht
  go_wp2_with (first | (go_at_call 57; refine (isDigit_yes _ _ (by decide) (by decide)).mono ?_; rintro e w' ⟨rfl, rfl⟩) | (go_at_call 58; refine Hn.out.mono ?_))
  rintro e w2 ⟨rfl, hm, ht⟩
  have ht2 := Ht1.out.then ht
  have hb2 := hm.1
  have hs2 := ht2.size
  have hMl := hb2.lt
  have hta : Tch Nil w2 (w2.alloc (.cells #[.bool false, .slice none 0 0] 69)) := (Tch.refl _ _).alloc _
  have hE2 := (ht2.cell HE.out (fun e => by simp at e; omega))
  have hg := setString_two (w2.alloc (.cells #[.bool false, .slice none 0 0] 69)) w2.heap.size ⟨#[50]⟩ a (Blk.new _ _ _) (by omega) rfl (fun _ => rfl) (hta.cell hE2 (fun e => e))
  have Hg := Lib.hid hg
  have Hta := Lib.hid hta
  have Hb2 := Lib.hid hb2
  have Ht2 := Lib.hid ht2
  have Hc2 := Lib.hid (Hc1.out.at_ 7)
  clear hm ht ht2 hb2 hta hE2 hg
  go_wp2_with (go_at_call 60; refine Hg.out.mono ?_)
  rintro e w3 ⟨rfl, ⟨v, hv, hw⟩, ht3⟩
  have ht23 : Tch Nil w2 w3 := Hta.out.trans ht3 (fun k hk e => by omega)
  have hb3 := Hb2.out.tch ht23 (fun e => e)
  have c3 := (hb3.cell 3).trans Hc2.out.c3
  have f3 := hb3.frozen 3
  have hvs := hv.lt
  have hs := Hta.out.size
  have hMY : M ≠ w2.heap.size := by omega
  have ht4 : Tch (· = M) w3 (w3.setCell ⟨M, 3, none⟩ (.pointer (some ⟨w2.heap.size, 0, none⟩))) := (Tch.refl (· = M) w3).setCell (p := ⟨M, 3, none⟩) (fun _ => rfl) _
  have hB : BI (w3.setCell ⟨M, 3, none⟩ (.pointer (some ⟨w2.heap.size, 0, none⟩))) w2.heap.size false 2 :=
    BI.tch ⟨v, hv, hw.low (Nat.zero_le _)⟩ ht4 (fun e => hMY e.symm) (fun k hk e => by subst e; exact hb3.ne_ hk (by decide) rfl)
  have HB := Lib.hid hB
  have Hb3 := Lib.hid (hb3.set_ 3 (.pointer (some ⟨w2.heap.size, 0, none⟩)))
  have Ht4 := Lib.hid ((Ht2.out.then (ht23.nil _)).then ht4)
  clear hB hb3 hv hw ht3 ht4 ht23
  go_wp2
  go_returns
  exact ⟨w2.heap.size, ⟨rfl, ⟨_, Hb3.out, Hc2.out.sized _⟩, Ht4.out⟩, hs2, HB.out⟩
def BehindOut (w : World) (M Y Z : Nat) (e : Ending) (w' : World) : Prop :=
  e = .returned (.func (.func 78) #[] #[]) ∧ St w' M sx 7 true (.pointer (some ⟨Y, 0, none⟩)) Z ∧ BI w' Z true 2 ∧ Tch (fun k => k = M ∨ k = Y ∨ k = Z) w w'
set_option maxRecDepth 100000 in
set_option maxHeartbeats 2000000 in
theorem behind_end (w : World) (M Y Z : Nat) (h : St w M sx 7 true (.pointer (some ⟨Y, 0, none⟩)) Z) (hT : Blk w Z 69 #[.bool false, .slice none 0 0]) (hY : BI w Y false 2) (hne : Z ≠ Y) :
    Calls Tryz.prog 61 #[.pointer (some ⟨M, 0, none⟩)] w (BehindOut w M Y Z) := by
  obtain ⟨cs, hb, hc⟩ := h
  have hp := peek_end w M sx cs ⟨hb, hc.c0, hc.c1⟩
  have Hp := Lib.hid hp
  have Hc := Lib.hid hc
  have hMT : M ≠ Z := hb.ne_ hT (by decide)
  have hMY : M ≠ Y := by obtain ⟨v, hv, _⟩ := hY; exact hb.ne_ hv (by decide)
  have hMg : ∀ k x, Blk w k 111 x → M ≠ k := fun k x hx => hb.ne_ hx (by decide)
  have HMg := Lib.hid hMg
  have HT := Lib.hid hT
  have HY := Lib.hid hY
  clear hp hb hc hMg hT hY
  go_enter Tryz.func61, Tryz.ntmps61
  go_wp2_with (go_at_call 41; refine Hp.out.mono ?_)
  rintro e w1 ⟨rfl, hm, ht⟩
  have hst : St w1 M sx 7 true (.pointer (some ⟨Y, 0, none⟩)) Z := ⟨cs, hm.1, Hc.out⟩
  have ha := add_zero w1 M Y Z 7 sx hst (HT.out.tch ht (fun e => hMT e.symm)) (HY.out.tch ht (fun e => hMY e.symm) (fun k hk e => HMg.out k _ hk e.symm)) hne
  have Ha := Lib.hid ha
  have Hst := Lib.hid hst
  have Ht := Lib.hid ht
  clear ha hst hm ht
  go_wp2_with (go_at_call 77; refine Ha.out.mono ?_)
  rintro e w2 ⟨rfl, h5, ht5⟩
  have H5 := Lib.hid h5
  have Ht5 := Lib.hid ht5
  clear h5 ht5
  go_wp2
  go_returns
  exact ⟨rfl, Hst.out.tch Ht5.out (fun e => e.elim hMY hMT), H5.out, (Ht.out.mono fun k e => .inl e).trans Ht5.out (fun k _ e => .inr e)⟩
set_option maxRecDepth 100000 in
set_option maxHeartbeats 2000000 in
theorem next_end (w : World) (M Z : Nat) (sz : Value) (h : St w M sx 7 true sz Z) :
    Calls Tryz.prog 78 #[.pointer (some ⟨M, 0, none⟩)] w fun e w' => e = .returned .nilFunc ∧ St w' M sx 7 true sz Z ∧ Tch (· = M) w w' := by
  obtain ⟨cs, hb, hc⟩ := h
  have hp := peek_end w M sx cs ⟨hb, hc.c0, hc.c1⟩
  have Hp := Lib.hid hp
  have Hc := Lib.hid hc
  clear hp hb hc
  go_enter Tryz.func78, Tryz.ntmps78
  go_wp2_with (go_at_call 41; refine Hp.out.mono ?_)
  rintro e w1 ⟨rfl, hm, ht⟩
  have c0 : w1.cell? ⟨M, 0, none⟩ = some (.string sx) := (hm.1.cell 0).trans hm.2.1
  have c1 : w1.cell? ⟨M, 1, none⟩ = some (.int .i64 sx.size) := (hm.1.cell 1).trans hm.2.2
  have Hm := Lib.hid hm
  have Ht := Lib.hid ht
  clear hm ht
  go_wp2
  go_quiet (fail)
  go_wp2
  go_returns
  exact ⟨rfl, ⟨_, Hm.out.1, Hc.out⟩, Ht.out.drewN _⟩
end Go.Proofs.YtbblbolpcdkggaaGreatFmt
