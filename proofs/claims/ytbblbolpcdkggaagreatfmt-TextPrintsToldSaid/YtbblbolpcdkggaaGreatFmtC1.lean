/-
  Walks: text's machine: skip, peek.
-/
import Derived.Test.YtbblbolpcdkggaaGreatFmtB6
namespace Go.Proofs.YtbblbolpcdkggaaGreatFmt
open Go.RowKit
/-- The machine's block. -/
def Mach (w : World) (M : Nat) (s : ByteArray) (p : Nat) (cs : Array Value) : Prop := Blk w M 65 cs ∧ cs[0]? = some (.string s) ∧ cs[1]? = some (.int .i64 p)
def PeekOut (w : World) (M : Nat) (s : ByteArray) (p : Nat) (cs : Array Value) (c : Int) (e : Ending) (w' : World) : Prop := e = .returned (.int .u8 c) ∧ Mach w' M s p cs ∧ Tch (· = M) w w'
set_option maxRecDepth 100000 in
set_option maxHeartbeats 2000000 in
theorem peek_stay (w : World) (M : Nat) (s : ByteArray) (p : Nat) (cs : Array Value) (h : Mach w M s p cs) (hp : p < s.size) (h32 : ((s[p].toNat : Int) == 32) = false) (h9 : ((s[p].toNat : Int) == 9) = false) :
    Calls Tryz.prog 41 #[.pointer (some ⟨M, 0, none⟩)] w (PeekOut w M s p cs s[p].toNat) := by
  obtain ⟨hb, h0, h1⟩ := h
  have c0 : w.cell? ⟨M, 0, none⟩ = some (.string s) := (hb.cell 0).trans h0
  have c1 : w.cell? ⟨M, 1, none⟩ = some (.int .i64 p) := (hb.cell 1).trans h1
  have Hb := Lib.hid hb; clear hb
  have H0 := Lib.hid h0; clear h0
  have H1 := Lib.hid h1; clear h1
  go_enter Tryz.func41, Tryz.ntmps41
  go_wp2
  go_rounds 1
  go_quiet (fail)
  go_wp2
  go_quiet (fail)
  go_wp2
  go_quiet (fail)
  go_wp2
  go_ret
  exact ⟨rfl, ⟨Hb.out, H0.out, H1.out⟩, (by repeat (first | exact Tch.refl _ _ | with_reducible assumption | refine Tch.drewN ?_ _ | refine Tch.drew ?_ | refine Tch.setCell ?_ (fun _ => by show _ = _; rfl) _ | refine Tch.alloc ?_ _))⟩
set_option maxRecDepth 100000 in
set_option maxHeartbeats 2000000 in
theorem peek_end (w : World) (M : Nat) (s : ByteArray) (cs : Array Value) (h : Mach w M s s.size cs) :
    Calls Tryz.prog 41 #[.pointer (some ⟨M, 0, none⟩)] w (PeekOut w M s s.size cs 0) := by
  obtain ⟨hb, h0, h1⟩ := h
  have c0 : w.cell? ⟨M, 0, none⟩ = some (.string s) := (hb.cell 0).trans h0
  have c1 : w.cell? ⟨M, 1, none⟩ = some (.int .i64 s.size) := (hb.cell 1).trans h1
  have Hb := Lib.hid hb; clear hb
  have H0 := Lib.hid h0; clear h0
  have H1 := Lib.hid h1; clear h1
  go_enter Tryz.func41, Tryz.ntmps41
  go_wp2
  go_rounds 1
  go_quiet (fail)
  go_wp2
  go_quiet (fail)
  go_wp2
  go_ret
  exact ⟨rfl, ⟨Hb.out, H0.out, H1.out⟩, (by repeat (first | exact Tch.refl _ _ | with_reducible assumption | refine Tch.drewN ?_ _ | refine Tch.drew ?_ | refine Tch.setCell ?_ (fun _ => by show _ = _; rfl) _ | refine Tch.alloc ?_ _))⟩
end Go.Proofs.YtbblbolpcdkggaaGreatFmt
/-
  Walks: text's machine: peek past one blank.
-/
namespace Go.Proofs.YtbblbolpcdkggaaGreatFmt
open Go.RowKit
theorem Mach.moved {w : World} {M p q : Nat} {s : ByteArray} {cs : Array Value} (h : Mach w M s p cs) (h2 : 1 < cs.size) : Mach (w.setCell ⟨M, 1, none⟩ (.int .i64 q)) M s q (cs.setIfInBounds 1 (.int .i64 q)) :=
  ⟨h.1.set_ 1 _, by rw [Array.getElem?_setIfInBounds, if_neg (by decide)]; exact h.2.1, by rw [Array.getElem?_setIfInBounds, if_pos rfl, if_pos h2]⟩
set_option maxRecDepth 100000 in
set_option maxHeartbeats 2000000 in
theorem skip_one (w : World) (M : Nat) (s : ByteArray) (p : Nat) (cs : Array Value) (h : Mach w M s p cs) (q : Nat) (hpq : p + 1 = q) (hp0 : p < s.size) (hp : q < s.size) (hq : q < 4294967296) (h32 : ((s[p].toNat : Int) == 32) = true) (g32 : ((s[q].toNat : Int) == 32) = false) (g9 : ((s[q].toNat : Int) == 9) = false) :
    Calls Tryz.prog 56 #[.pointer (some ⟨M, 0, none⟩)] w fun e w' => e = .returned (.tuple #[]) ∧ Mach w' M s q (cs.setIfInBounds 1 (.int .i64 q)) ∧ Tch (· = M) w w' := by
  have h2 : 1 < cs.size := by
    rcases Nat.lt_or_ge 1 cs.size with h3 | h3
    · exact h3
    · have := h.2.2; rw [Array.getElem?_eq_none h3] at this; cases this
  have Hh := Lib.hid h; clear h
  go_enter Tryz.func56, Tryz.ntmps56
  go_wp2
  go_loopw [] (fun wr => ((Mach wr M s p cs ∧ Tch (· = M) w wr) ∨ (Mach wr M s q (cs.setIfInBounds 1 (.int .i64 q)) ∧ Tch (· = M) w wr))) (fun wr => match wr.cell? ⟨M, 1, none⟩ with | some (.int _ x) => (q - x.toNat) | _ => 0)
  case atStart => exact .inl ⟨Hh.out, Tch.refl _ _⟩
  case round =>
    rcases hrel with ⟨hm, ht⟩ | ⟨hm, ht⟩
    · have c0 : wr.cell? ⟨M, 0, none⟩ = some (.string s) := (hm.1.cell 0).trans hm.2.1
      have c1 : wr.cell? ⟨M, 1, none⟩ = some (.int .i64 p) := (hm.1.cell 1).trans hm.2.2
      have f1 := hm.1.frozen 1
      have Hm := Lib.hid hm; clear hm
      have Ht := Lib.hid ht; clear ht
      have hpI : (p : Int) + 1 = (q : Int) := by omega
      go_wp2
      go_quiet (fail)
      go_wp2
      go_roundw
      case rel =>
        refine .inr ?_
        have hm2 : Mach (wr.drewN nq) M s p cs := Hm.out
        have := hm2.moved (q := q) h2
        exact ⟨this, (Ht.out.drewN _).setCell (fun _ => rfl) _⟩
      case measure =>
        have hm2 : Mach (wr.drewN nq) M s p cs := Hm.out
        have h3 := hm2.moved (q := q) h2
        have e1 := (h3.1.cell 1).trans h3.2.2
        rw [e1, c1]; simp; omega
    · have c0 : wr.cell? ⟨M, 0, none⟩ = some (.string s) := (hm.1.cell 0).trans hm.2.1
      have c1 : wr.cell? ⟨M, 1, none⟩ = some (.int .i64 q) := (hm.1.cell 1).trans hm.2.2
      have Hm := Lib.hid hm; clear hm
      have Ht := Lib.hid ht; clear ht
      go_wp2
      go_quiet (fail)
      go_wp2
      go_end0
      exact ⟨rfl, ⟨Hm.out.1, Hm.out.2⟩, Ht.out.drewN _⟩
end Go.Proofs.YtbblbolpcdkggaaGreatFmt
/-
  Walks: text's machine: peek behind one blank.
-/
namespace Go.Proofs.YtbblbolpcdkggaaGreatFmt
open Go.RowKit
set_option maxRecDepth 100000 in
set_option maxHeartbeats 2000000 in
theorem peek_blank (w : World) (M : Nat) (s : ByteArray) (p : Nat) (cs : Array Value) (h : Mach w M s p cs) (q : Nat) (hpq : p + 1 = q) (hp0 : p < s.size) (hp : q < s.size) (hq : q < 4294967296) (h32 : ((s[p].toNat : Int) == 32) = true) (g32 : ((s[q].toNat : Int) == 32) = false) (g9 : ((s[q].toNat : Int) == 9) = false) :
    Calls Tryz.prog 41 #[.pointer (some ⟨M, 0, none⟩)] w (PeekOut w M s q (cs.setIfInBounds 1 (.int .i64 q)) s[q].toNat) := by
  have hc := skip_one w M s p cs h q hpq hp0 hp hq h32 g32 g9
  have Hc := Lib.hid hc; clear hc h h32 g32 g9
  go_enter Tryz.func41, Tryz.ntmps41
  go_wp2_with (go_at_call 56; refine Hc.out.mono ?_)
  rintro e w1 ⟨rfl, hm, ht⟩
  have c0 : w1.cell? ⟨M, 0, none⟩ = some (.string s) := (hm.1.cell 0).trans hm.2.1
  have c1 : w1.cell? ⟨M, 1, none⟩ = some (.int .i64 q) := (hm.1.cell 1).trans hm.2.2
  have Hm := Lib.hid hm; clear hm
  have Ht := Lib.hid ht; clear ht
  go_wp2
  go_quiet (fail)
  go_wp2
  go_quiet (fail)
  go_wp2
  go_ret
  exact ⟨rfl, Hm.out, (Ht.out.drewN _).drewN _⟩
end Go.Proofs.YtbblbolpcdkggaaGreatFmt
/-
  Walks: text's machine: number, of one digit.
-/
namespace Go.Proofs.YtbblbolpcdkggaaGreatFmt
open Go.RowKit
def NumEnd (s : ByteArray) (q : Nat) : Prop := (q = s.size) ∨ ∃ h : q < s.size, (s[q].toNat : Int) < 48
theorem Mach.size {w : World} {M p : Nat} {s : ByteArray} {cs : Array Value} (h : Mach w M s p cs) : 1 < cs.size := by
  rcases Nat.lt_or_ge 1 cs.size with h3 | h3
  · exact h3
  · have := h.2.2; rw [Array.getElem?_eq_none h3] at this; cases this
theorem isDigit_yes (w : World) (c : Int) (h1 : 48 ≤ c) (h2 : c ≤ 57) : Calls Tryz.prog 57 #[.int .u8 c] w fun e w' => e = .returned (.bool true) ∧ w' = w := by
  go_enter Tryz.func57, Tryz.ntmps57
  go_wp2
  go_ret
  exact ⟨rfl, rfl⟩
def NumberOut (w : World) (M : Nat) (s : ByteArray) (p q : Nat) (cs : Array Value) (z : ByteArray) (e : Ending) (w' : World) : Prop :=
  e = .returned (.tuple #[.string z, .int .i64 p]) ∧ Mach w' M s q (cs.setIfInBounds 1 (.int .i64 q)) ∧ Tch (· = M) w w'
set_option maxRecDepth 100000 in
set_option maxHeartbeats 2000000 in
theorem number_last (w : World) (M : Nat) (s : ByteArray) (p : Nat) (cs : Array Value) (h : Mach w M s p cs) (q : Nat) (hpq : p + 1 = q) (hp0 : p < s.size) (hq : q < 4294967296) (hqs : q = s.size) (hd1 : (48 : Int) ≤ s[p].toNat) (hd2 : (s[p].toNat : Int) ≤ 57)
    (hz : Lib.trimLeftB (s.extract p q).data.toList 48 = [50]) :
    Calls Tryz.prog 58 #[.pointer (some ⟨M, 0, none⟩)] w (NumberOut w M s p q cs ⟨#[50]⟩) := by
  have h2 := h.size
  have Hh := Lib.hid h; clear h
  have c1 : w.cell? ⟨M, 1, none⟩ = some (.int .i64 p) := (Hh.out.1.cell 1).trans Hh.out.2.2
  have Hqs := Lib.hid hqs
  have hnl : decide ((q : Int) < (s.size : Int)) = false := by rw [decide_eq_false_iff_not]; omega
  have hqle : (q : Int) ≤ (s.size : Int) := by omega
  clear hqs
  have Hz := Lib.hid hz; clear hz
  go_enter Tryz.func58, Tryz.ntmps58
  go_wp2
  go_loopw [] (fun wr => ((Mach wr M s p cs ∧ Tch (· = M) w wr) ∨ (Mach wr M s q (cs.setIfInBounds 1 (.int .i64 q)) ∧ Tch (· = M) w wr))) (fun wr => match wr.cell? ⟨M, 1, none⟩ with | some (.int _ x) => (q - x.toNat) | _ => 0)
  case atStart => exact .inl ⟨Hh.out, Tch.refl _ _⟩
  case round =>
    rcases hrel with ⟨hm, ht⟩ | ⟨hm, ht⟩
    · have c0 : wr.cell? ⟨M, 0, none⟩ = some (.string s) := (hm.1.cell 0).trans hm.2.1
      have c1 : wr.cell? ⟨M, 1, none⟩ = some (.int .i64 p) := (hm.1.cell 1).trans hm.2.2
      have f1 := hm.1.frozen 1
      have Hm := Lib.hid hm; clear hm
      have Ht := Lib.hid ht; clear ht
      have hpI : (p : Int) + 1 = (q : Int) := by omega
      go_wp2
      go_quiet ((go_at_call 57; refine Calls.quiet_of_same (isDigit_yes _ _ (by omega) (by omega))))
      go_wp2
      go_roundw
      case rel =>
        refine .inr ?_
        have hm2 : Mach (wr.drewN nq) M s p cs := Hm.out
        have := hm2.moved (q := q) h2
        exact ⟨this, (Ht.out.drewN _).setCell (fun _ => rfl) _⟩
      case measure =>
        have hm2 : Mach (wr.drewN nq) M s p cs := Hm.out
        have h3 := hm2.moved (q := q) h2
        have e1 := (h3.1.cell 1).trans h3.2.2
        rw [e1, c1]; simp; omega
    · have c0 : wr.cell? ⟨M, 0, none⟩ = some (.string s) := (hm.1.cell 0).trans hm.2.1
      have c1 : wr.cell? ⟨M, 1, none⟩ = some (.int .i64 q) := (hm.1.cell 1).trans hm.2.2
      have Hm := Lib.hid hm; clear hm
      have Ht := Lib.hid ht; clear ht
      obtain rfl := Hqs.out
      clear hnl
      have hps : (p : Int) ≤ (s.size : Int) := by omega
      go_wp2
      go_quiet (fail)
      go_wp2
      go_quiet ((go_at_call 74; refine (Tryz.strings_TrimLeft_one (s.extract p s.size) 48 (by decide) _).mono ?_; rintro e w' ⟨rfl, rfl⟩; exact ⟨rfl, _, rfl⟩))
      rw [Hz.out]
      go_wp2
      go_ret2
      exact ⟨rfl, ⟨Hm.out.1, Hm.out.2⟩, (Ht.out.drewN _)⟩
end Go.Proofs.YtbblbolpcdkggaaGreatFmt
