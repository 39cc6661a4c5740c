/-
  Walks: ref's Int, surdbig's Sign, Abs.
-/
import Derived.Test.YtbblbolpcdkggaaGreatFmtB2
import Derived.Lib.ItoaNum
namespace Go.Proofs.YtbblbolpcdkggaaGreatFmt
open Go.RowKit
def negOf (l : List UInt8) : Bool := l.head? == some 45
theorem setText_any (w : World) (g0 base : Nat) (s : ByteArray) (hf : Tp.formed s.data.toList = true) (hl : (Tp.bare s.data.toList).length ≤ 20000) (u0 u1 : Value) (hblk : Blk w g0 43 #[u0, u1]) (hg0 : g0 < base) (hB : base ≤ w.heap.size) :
    Calls Tryz.prog 32 #[.pointer (some ⟨g0, 0, none⟩), .string s, .int .i64 10] w (SetOut w g0 base (negOf s.data.toList) (Tp.bare s.data.toList)) := by
  obtain ⟨hpos, hsz, h⟩ := formed_scans s hf hl
  rcases h with h | ⟨_, h45, h1, h⟩
  · have h0 := h 0 hpos (Nat.le_refl _)
    have e45 : ((s[0].toNat : Int) == 45) = false := by rw [beq_eq_false_iff_ne]; omega
    have en : negOf s.data.toList = false := by
      unfold negOf; rw [Tp.head_data s hpos]
      rw [beq_eq_false_iff_ne]; intro e; injection e with e; rw [e] at h0; simp at h0
    rw [en, Tp.bare_self s hpos e45]
    exact setString_digit w g0 base s hpos (by omega) (fun k hk => h k hk (Nat.zero_le _)) u0 u1 hblk hg0 hB
  · have en : negOf s.data.toList = true := by
      unfold negOf; rw [Tp.head_data s hpos]
      have e : s[0] = 45 := by apply UInt8.toNat_inj.1; have := beq_iff_eq.1 h45; simpa using (by omega : s[0].toNat = 45)
      rw [e]; rfl
    rw [en, Tp.bare_tail s hpos h45]
    refine setString_dash w g0 base s hpos (by omega) h45 (by rw [Tp.size_tail]; omega) (fun k hk => ?_) u0 u1 hblk hg0 hB
    have hk2 : k + 1 < s.size := by rw [Tp.size_tail] at hk; omega
    have e : (s.extract 1 s.size)[k] = s[k + 1] := by
      rw [ByteArray.getElem_extract]; congr 1; omega
    rw [e]
    exact h (k + 1) hk2 (by omega)
/-- A surdbig number that the call made: what n.Int leaves. -/
def IntGot (w : World) (neg : Bool) (n : Nat) (e : Ending) (w' : World) : Prop :=
  e = .returned (.pointer (some ⟨w.heap.size, 0, none⟩)) ∧ (∃ ws, IntAt w' w.heap.size (w.heap.size + 1) (neg && decide (0 < ws.length)) ws ∧ wval ws = n) ∧ Tch Nil w w'
set_option maxHeartbeats 1000000 in
theorem refInt_any (w : World) (s : ByteArray) (hf : Tp.formed s.data.toList = true) (hl : (Tp.bare s.data.toList).length ≤ 20000) :
    Calls Tryz.prog 13 #[.string s] w (IntGot w (negOf s.data.toList) (dv (Tp.bare s.data.toList))) := by
  have hc := setText_any (w.alloc (.cells #[.bool false, .slice none 0 0] 43)) w.heap.size (w.heap.size + 1) s hf hl _ _ (Blk.new _ _ _) (by omega) (by simp)
  have Hc := Lib.hid hc; clear hc
  clear hf hl
  go_enter Tryz.func13, Tryz.ntmps13
  go_wp2_with (go_at_call 32; refine Hc.out.mono ?_)
  rintro e w3 ⟨rfl, hat, ht⟩
  have Hat := Lib.hid hat; clear hat
  have Ht := Lib.hid ht; clear ht
  go_wp2
  go_ret
  refine ⟨rfl, Hat.out, ((Tch.refl Nil w).alloc _).trans Ht.out (fun k hk h => ?_)⟩
  rcases h with h | h <;> exfalso <;> omega
def signNum (neg : Bool) (n : Nat) : Int := if n = 0 then 0 else if neg then -1 else 1
theorem sign_any (w : World) (g base : Nat) (neg : Bool) (ws : List Nat) (h : IntAt w g base neg ws) :
    Calls Tryz.prog 14 #[.pointer (some ⟨g, 0, none⟩)] w fun e w' => e = .returned (.int .i64 (signNum neg (wval ws))) ∧ w = w' := by
  obtain ⟨v, hb, hr, _, hp, _⟩ := h
  obtain ⟨A, cap, rfl, -, -, -⟩ := hr.formA
  have c0 : w.cell? ⟨g, 0, none⟩ = some (.bool neg) := hb.cell 0
  have c1 : w.cell? ⟨g, 1, none⟩ = some (.slice A ws.length cap) := hb.cell 1
  clear hr
  by_cases h0 : ws = []
  · subst h0
    have e : signNum neg (wval []) = 0 := rfl
    rw [e]
    go_enter Tryz.func14, Tryz.ntmps14
    go_wp2
    go_ret
    exact ⟨rfl, rfl⟩
  · have hl : ((ws.length : Int) == 0) = false := by
      rw [beq_eq_false_iff_ne]; intro h; apply h0; exact List.length_eq_zero_iff.1 (by omega)
    have hn : wval ws ≠ 0 := by rcases hp with h | h; exact absurd h h0; omega
    unfold signNum; rw [if_neg hn]
    clear hp h0 hn hb
    cases neg
    · go_enter Tryz.func14, Tryz.ntmps14
      go_wp2
      go_ret
      exact ⟨rfl, rfl⟩
    · go_enter Tryz.func14, Tryz.ntmps14
      go_wp2
      go_ret
      exact ⟨rfl, rfl⟩
end Go.Proofs.YtbblbolpcdkggaaGreatFmt
/-
  Plain words and walks: surdbig's Abs; the digits of a number, one by one from the end.
-/
namespace Go.Proofs.YtbblbolpcdkggaaGreatFmt
open Go.RowKit
/-- The decimal digits of a number, none for 0. -/
def digs (n : Nat) : List UInt8 := if n = 0 then [] else Lib.decDigits n
theorem digs_step {n : Nat} (h : 0 < n) : digs n = digs (n / 10) ++ [UInt8.ofNat (48 + n % 10)] := by
  unfold digs
  rw [if_neg (by omega)]
  by_cases h10 : n < 10
  · rw [if_pos (by omega), Lib.decDigits, dif_pos h10, Nat.mod_eq_of_lt h10]; rfl
  · rw [if_neg (by omega)]
    conv => lhs; rw [Lib.decDigits, dif_neg h10]
theorem digs_pos {n : Nat} (h : 0 < n) : digs n = Lib.decDigits n := by unfold digs; rw [if_neg (by omega)]
theorem ten_low (a i r : Nat) (hi : i < 9) : (a * 10 ^ (9 - i) + r) / 10 = a * 10 ^ (9 - (i + 1)) + r / 10 ∧ (a * 10 ^ (9 - i) + r) % 10 = r % 10 := by
  obtain ⟨j, hj⟩ : ∃ j, 9 - i = j + 1 := ⟨8 - i, by omega⟩
  have hj2 : 9 - (i + 1) = j := by omega
  rw [hj, hj2, Nat.pow_succ, ← Nat.mul_assoc]
  constructor <;> omega
def rowVal (v : Value) (w : World) : Nat :=
  match v with
  | .slice (some a) n _ => wval ((List.range n).map fun j => match w.cell? ⟨a.block, j, none⟩ with | some (.int _ x) => x.toNat | _ => 0)
  | _ => 0
theorem Row.val {w : World} {base : Nat} {v : Value} {ws : List Nat} (h : Row w base v ws) : rowVal v w = wval ws := by
  rcases h.form0 with ⟨rfl, rfl⟩ | ⟨g, cap, rfl, -, -, -⟩
  · rfl
  · show wval _ = wval ws
    congr 1
    apply List.ext_getElem
    · simp
    · intro j h1 h2
      simp only [List.getElem_map, List.getElem_range]
      rw [h.cell j h2]; simp
def AbsOut (w : World) (g0 base n : Nat) (e : Ending) (w' : World) : Prop :=
  e = .returned (.pointer (some ⟨g0, 0, none⟩)) ∧ (∃ ws, IntAt w' g0 base false ws ∧ wval ws = n) ∧ Tch (fun k => k = g0 ∨ base ≤ k) w w'
set_option maxRecDepth 100000 in
set_option maxHeartbeats 1000000 in
theorem abs_any (w : World) (g0 g base bx : Nat) (neg : Bool) (ws : List Nat) (u0 u1 : Value) (hx : IntAt w g bx neg ws) (hz : Blk w g0 43 #[u0, u1]) (hne : 0 < ws.length) (hg0 : g0 < base) (hB : base ≤ w.heap.size) :
    Calls Tryz.prog 17 #[.pointer (some ⟨g0, 0, none⟩), .pointer (some ⟨g, 0, none⟩)] w (AbsOut w g0 base (wval ws)) := by
  obtain ⟨i0, hi, hz0, hz1, hz2⟩ := info_parts info79
  obtain ⟨v, hb, hr, hw, hp, hlen⟩ := hx
  obtain ⟨gx, cap, rfl, hgx, hc, hm⟩ := hr.form hne
  have c1 : w.cell? ⟨g, 1, none⟩ = some (.slice (some ⟨gx, 0, none⟩) ws.length cap) := hb.cell 1
  have hcells : ∀ j u, (ws.map w32)[j]? = some u → (w.alloc (.cells #[] 79)).cell? ((⟨gx, 0, none⟩ : Addr).add j) = some u := fun j u hu => World.ownsRow.cells (hr.alloc _) rfl j u hu
  have hone : ∀ u ∈ ws.map w32, u.oneCell' = true := by
    intro u hu
    obtain ⟨x, -, rfl⟩ := List.mem_map.1 hu
    rfl
  have Hc := Lib.hid hcells; clear hcells
  have Ho := Lib.hid hone; clear hone
  have Hw := Lib.hid hw; clear hw
  have Hp := Lib.hid hp; clear hp
  have Hz := Lib.hid hz; clear hz
  have Hm := Lib.hid hm; clear hm
  have H63 := Lib.hid (show 0 + ws.length ≤ maxLen by unfold maxLen; omega)
  have hgl := hb.lt
  clear hr hb
  go_enter Tryz.func17, Tryz.ntmps17
  go_wp2_with (at_builtin; refine wpList_append_own _ rfl _ _ 41 rfl base 79 i0 (.int .u32 0) 1 4 Tryz.underlying41 hi hz0 hz1 hz2 rfl (by decide) _ 0 [] rfl (World.ownsRow_lit w #[] 0 hB (Nat.zero_le _) rfl) ⟨gx, 0, none⟩ ws.length cap (ws.map w32) rfl (by simp) Hc.out Ho.out H63.out (by omega) (by simp; omega) ?_)
  intro v' w4 hown4 hgrow4 _
  have hrow : Row w4 base v' ws := hown4
  have htt : Tch Nil w w4 := ((Tch.refl Nil w).alloc _).trans (Tch.grown hgrow4) (fun k hk h => by have h2 : some k = some w.heap.size := h; injection h2 with h2; exfalso; omega)
  obtain ⟨A', cap', rfl, -, -, -⟩ := hrow.formA
  have Hrow := Lib.hid hrow; clear hrow
  have Htt := Lib.hid htt; clear htt
  clear hown4 hgrow4
  go_wp2_with (go_at_call 34; refine (put_any w4 g0 false A' ws.length cap' u0 u1 (Hz.out.tch Htt.out (fun h => h))).mono ?_)
  rintro e w5 ⟨rfl, hb5, ht5⟩
  have Hb5 := Lib.hid hb5; clear hb5
  have Ht5 := Lib.hid ht5; clear ht5
  go_wp2
  go_ret
  refine ⟨rfl, ⟨ws, ⟨_, Hb5.out, Hrow.out.tch Ht5.out (fun k hk h => ?_), Hw.out, Hp.out, hlen⟩, rfl⟩, (Htt.out.nil _).trans Ht5.out (fun k _ h => .inl h)⟩
  have := (World.ownsRow.lt Hrow.out k hk).1
  omega
end Go.Proofs.YtbblbolpcdkggaaGreatFmt
