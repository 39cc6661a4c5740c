/-
  Walks: surdbig's put, SetString.
-/
import Derived.Test.YtbblbolpcdkggaaGreatFmtB1
import Derived.Test.YtbblbolpcdkggaaGreatFmtA6
namespace Go.Proofs.YtbblbolpcdkggaaGreatFmt
open Go.RowKit
def PutOut (g0 : Nat) (neg : Bool) (A : Option Addr) (n cap : Nat) (w : World) (e : Ending) (w' : World) : Prop :=
  e = .returned (.pointer (some ⟨g0, 0, none⟩)) ∧ Blk w' g0 43 #[.bool (neg && decide (0 < n)), .slice A n cap] ∧ Tch (· = g0) w w'
theorem put_any (w : World) (g0 : Nat) (neg : Bool) (A : Option Addr) (n cap : Nat) (u0 u1 : Value) (hb : Blk w g0 43 #[u0, u1]) :
    Calls Tryz.prog 34 #[.pointer (some ⟨g0, 0, none⟩), .bool neg, .slice A n cap] w (PutOut g0 neg A n cap w) := by
  have c0 : w.cell? ⟨g0, 0, none⟩ = some u0 := hb.cell 0
  have c1 : w.cell? ⟨g0, 1, none⟩ = some u1 := hb.cell 1
  have f0 := hb.frozen 0
  have f1 := hb.frozen 1
  have hfin : ∀ b, b = (neg && decide (0 < n)) → PutOut g0 neg A n cap w (.returned (.pointer (some ⟨g0, 0, none⟩))) ((w.setCell ⟨g0, 1, none⟩ (.slice A n cap)).setCell ⟨g0, 0, none⟩ (.bool b)) := by
    rintro b rfl
    refine ⟨rfl, (hb.set_ 1 _).set_ 0 _, Tch.setCell (Tch.setCell (Tch.refl _ w) (fun _ => ?_) _) (fun _ => ?_) _⟩ <;> rfl
  have Hf := Lib.hid hfin; clear hfin hb
  cases neg
  · go_enter Tryz.func34, Tryz.ntmps34
    go_wp2
    go_ret
    exact Hf.out _ (by simp)
  · cases hz : decide (0 < n)
    · have h0 : ¬ ((n : Int) > 0) := by have : ¬ (0 < n) := by simpa using hz
                                        omega
      go_enter Tryz.func34, Tryz.ntmps34
      go_wp2
      go_ret
      exact Hf.out _ (by rw [hz]; rfl)
    · have h0 : ((n : Int) > 0) := by have : (0 < n) := by simpa using hz
                                      omega
      go_enter Tryz.func34, Tryz.ntmps34
      go_wp2
      go_ret
      exact Hf.out _ (by rw [hz]; rfl)
def dv (l : List UInt8) : Nat := l.foldl (fun a c => a * 10 + (c.toNat - 48)) 0
theorem dv_snoc (l : List UInt8) (c : UInt8) : dv (l ++ [c]) = dv l * 10 + (c.toNat - 48) := by unfold dv; rw [List.foldl_append]; rfl
def IntAt (w : World) (g base : Nat) (neg : Bool) (ws : List Nat) : Prop :=
  ∃ v, Blk w g 43 #[.bool neg, v] ∧ Row w base v ws ∧ W32s ws ∧ (ws = [] ∨ 0 < wval ws) ∧ ws.length ≤ 100000
def Tens (m : Nat) : Prop := m = 1 ∨ m = 10 ∨ m = 100 ∨ m = 1000 ∨ m = 10000 ∨ m = 100000 ∨ m = 1000000
/-- What the loop of SetString keeps. -/
def DigRel (w : World) (base n : Nat) (l : List UInt8) (v rv bv iv : Value) (wr : World) : Prop :=
  ∃ (k r m : Nat) (ws : List Nat), k ≤ n ∧ iv = .int .i64 k ∧ rv = .int .u32 r ∧ bv = .int .u32 m ∧ Tens m ∧ r < m ∧ wval ws * m + r = dv (l.take k) ∧ (k = n → m = 1) ∧
    Row wr base v ws ∧ W32s ws ∧ (ws = [] ∨ 0 < wval ws) ∧ ws.length ≤ k ∧ Below base w wr
theorem scan_go {w wr : World} {base n k r m : Nat} {l : List UInt8} {ws : List Nat} {v : Value} (_hl : l.length = n) (hk : k < n) {d : Nat} (hd : ∃ c : UInt8, l[k]? = some c ∧ c.toNat - 48 = d) (hd9 : d ≤ 9) (hm0 : Tens m) (hr : r < m) (hv : wval ws * m + r = dv (l.take k))
    (hrow : Row wr base v ws) (hw : W32s ws) (hp : ws = [] ∨ 0 < wval ws) (hlen : ws.length ≤ k) (ht : Below base w wr) (hlow : m * 10 < 10000000) (hlast : k + 1 ≠ n) {rv bv iv : Value}
    (h1 : rv = .int .u32 ((r * 10 + d : Nat) : Int)) (h2 : bv = .int .u32 ((m * 10 : Nat) : Int)) (h3 : iv = .int .i64 ((k + 1 : Nat) : Int)) : DigRel w base n l v rv bv iv wr := by
  obtain ⟨c, hc, rfl⟩ := hd
  refine ⟨k + 1, _, _, ws, by omega, h3, h1, h2, by unfold Tens at hm0 ⊢; omega, by omega, ?_, fun h => absurd h hlast, hrow, hw, hp, by omega, ht⟩
  rw [List.take_add_one, hc, Option.toList_some, dv_snoc, ← hv, Nat.add_mul, Nat.mul_assoc]; omega
theorem scan_grow {w wr w3 : World} {base n k r m : Nat} {l : List UInt8} {ws rs : List Nat} {v' : Value} (_hl : l.length = n) (hk : k < n) {d : Nat} (hd : ∃ c : UInt8, l[k]? = some c ∧ c.toNat - 48 = d) (hv : wval ws * m + r = dv (l.take k))
    (hg : Grows ws rs (m * 10) (r * 10 + d)) (hrow : Row w3 base v' rs) (hlen : ws.length ≤ k) (ht : Below base w wr) (ht3 : Below base wr w3) {rv bv iv : Value}
    (h1 : rv = .int .u32 0) (h2 : bv = .int .u32 1) (h3 : iv = .int .i64 ((k + 1 : Nat) : Int)) : DigRel w base n l v' rv bv iv w3 := by
  obtain ⟨c, hc, rfl⟩ := hd
  obtain ⟨g1, g2, g3, g4⟩ := hg
  refine ⟨k + 1, 0, 1, rs, by omega, h3, h1, h2, .inl rfl, by omega, ?_, fun _ => rfl, hrow, g2, g4, by omega, ht.trans ht3⟩
  rw [Nat.mul_one, Nat.add_zero, List.take_add_one, hc, Option.toList_some, dv_snoc, ← hv, g1, Nat.add_mul, Nat.mul_assoc]; omega
def SetOut (w : World) (g0 base : Nat) (neg : Bool) (l : List UInt8) (e : Ending) (w' : World) : Prop :=
  e = .returned (.tuple #[.pointer (some ⟨g0, 0, none⟩), .bool true]) ∧ (∃ ws, IntAt w' g0 base (neg && decide (0 < ws.length)) ws ∧ wval ws = dv l) ∧ Tch (fun k => k = g0 ∨ base ≤ k) w w'
theorem set_end {w wr w3 : World} {g0 base n : Nat} {neg : Bool} {l : List UInt8} {ws : List Nat} {A : Option Addr} {cap r : Nat} (hl : l.length = n) (hv : wval ws * 1 + r = dv (l.take n)) (hr : r < 1) (hrow : Row wr base (.slice A ws.length cap) ws) (hw : W32s ws) (hp : ws = [] ∨ 0 < wval ws) (hwl : ws.length ≤ 100000)
    (ht : Below base w wr) (hg0 : g0 < base) (hput : PutOut g0 neg A ws.length cap wr (.returned (.pointer (some ⟨g0, 0, none⟩))) w3) : SetOut w g0 base neg l (.returned (.tuple #[.pointer (some ⟨g0, 0, none⟩), .bool true])) w3 := by
  obtain ⟨_, hb, htp⟩ := hput
  rw [List.take_of_length_le (by omega)] at hv
  refine ⟨rfl, ⟨ws, ⟨_, hb, hrow.tch htp (fun k hk e => ?_), hw, hp, hwl⟩, by omega⟩, ?_⟩
  · have := (World.ownsRow.lt hrow k hk).1
    omega
  · exact (Tch.of_below ht).mono (fun _ h => .inr h) |>.trans htp (fun k _ h => .inl h)

set_option maxRecDepth 100000 in
set_option maxHeartbeats 4000000 in
theorem setString_digit (w : World) (g0 base : Nat) (s : ByteArray) (hpos : 0 < s.size) (hsz : s.size ≤ 100000) (hdig : ∀ k (h : k < s.size), 48 ≤ (s[k].toNat : Int) ∧ (s[k].toNat : Int) ≤ 57) (u0 u1 : Value) (hblk : Blk w g0 43 #[u0, u1]) (hg0 : g0 < base) (hB : base ≤ w.heap.size) :
    Calls Tryz.prog 32 #[.pointer (some ⟨g0, 0, none⟩), .string s, .int .i64 10] w (SetOut w g0 base false (s.data.toList)) := by
  have Hblk := Lib.hid hblk; clear hblk
  have h45 : ((s[0].toNat : Int) == 45) = false := by rw [beq_eq_false_iff_ne]; have := hdig 0 hpos; omega
  have h43 : ((s[0].toNat : Int) == 43) = false := by rw [beq_eq_false_iff_ne]; have := hdig 0 hpos; omega
  have hemp : (s.toList == []) = false := by rw [ByteArray.toList_eq, beq_eq_false_iff_ne]; intro e; have h := Tp.len_data s; rw [e] at h; simp at h; omega
  have Hdig := Lib.hid hdig; clear hdig
  have Hln := Lib.hid (Tp.len_data s)
  obtain ⟨l, hl⟩ : ∃ l, s.data.toList = l := ⟨_, rfl⟩
  have Hl := Lib.hid hl
  rw [hl] at Hln ⊢
  clear hl
  go_enter Tryz.func32, Tryz.ntmps32
  go_wp2
  go_loopw [9, 10, 11, 12] (fun v rv bv iv wr => DigRel w base s.size l v rv bv iv wr) (fun _ _ _ iv _ => s.size - (intOf iv).toNat)
  case atStart => exact ⟨0, 0, 1, [], Nat.zero_le _, rfl, rfl, rfl, .inl rfl, by omega, rfl, fun _ => rfl, Row.nil _ _, fun x hx => (by cases hx), .inl rfl, Nat.zero_le _, Below.refl _ w⟩
  case round =>
    obtain ⟨k, r, m, ws, hk, rfl, rfl, rfl, hm0, hr, hv, hkn, hrow, hw, hp, hwl, ht⟩ := hrel
    obtain ⟨A, cap, rfl, -, -, -⟩ := hrow.formA
    by_cases hlt : k < s.size
    · have hks : k < s.size := hlt
      have hdig := Hdig.out k hks
      have hdd : ∃ c : UInt8, l[k]? = some c ∧ c.toNat - 48 = s[k].toNat - 48 := ⟨s[k], by rw [← Hl.out]; exact get_data s k hks, rfl⟩
      obtain ⟨D, hD⟩ : ∃ D, s[k].toNat - 48 = D := ⟨_, rfl⟩
      rw [hD] at hdd
      have hD9 : D ≤ 9 := by omega
      have HD := Lib.hid hD; clear hD
      have hG := fun hlow hlast rv bv iv h1 h2 h3 => scan_go (w := w) (wr := wr) (base := base) (v := .slice A ws.length cap) (d := D) Hln.out hlt hdd hD9 hm0 hr hv hrow hw hp hwl ht hlow hlast (rv := rv) (bv := bv) (iv := iv) h1 h2 h3
      have hGr := fun v' rs w3 hg hrow3 ht3 rv bv iv h1 h2 h3 => scan_grow (w := w) (wr := wr) (w3 := w3) (base := base) (ws := ws) (rs := rs) (v' := v') (m := m) (r := r) (d := D) Hln.out hlt hdd hv hg hrow3 hwl ht ht3 (rv := rv) (bv := bv) (iv := iv) h1 h2 h3
      have hgc := fun (m' add : Nat) h1 h2 h3 => grown_any wr base (.slice A ws.length cap) ws m' add hrow hw h1 h2 h3 hp (by omega) (by have := ht.size; omega)
      have HG := Lib.hid hG; clear hG
      have HGr := Lib.hid hGr; clear hGr
      have Hgc := Lib.hid hgc; clear hgc
      have Hdd := Lib.hid hdd; clear hdd
      have Ht := Lib.hid ht; clear ht
      clear hv hrow hw hp
      by_cases hbig : 10000000 ≤ m * 10
      · have hm : m = 1000000 := by unfold Tens at hm0; omega
        clear hbig hkn hm0
        subst hm
        have ha1 : ((r : Int) * 10 + ((s[k].toNat : Int) - 48)) = ((r * 10 + D : Nat) : Int) := by have := HD.out; omega
        have ha2 : r * 10 + D < W0 := by unfold W0; omega
        have hc10 : Calls Tryz.prog 47 #[.slice A ws.length cap, .int .u32 10000000, .int .u32 ((r * 10 + D : Nat) : Int)] wr (GrownOut wr base ws (1000000 * 10) (r * 10 + D)) := Hgc.out (1000000 * 10) (r * 10 + D) (by decide) (by decide) ha2
        rw [← ha1] at hc10
        have Hc10 := Lib.hid hc10; clear hc10 ha1 ha2
        go_wp2_with (go_at_call 47; refine Hc10.out.mono ?_)
        rintro e w3 ⟨v3, rs, rfl, hrow3, hg3, hb3⟩
        have Hrow3 := Lib.hid hrow3; clear hrow3
        have Hg3 := Lib.hid hg3; clear hg3
        have Hb3 := Lib.hid hb3; clear hb3
        go_wp2
        go_roundw
        case rel => exact HGr.out _ _ _ Hg3.out Hrow3.out Hb3.out _ _ _ rfl rfl (by simp)
        case measure => simp [intOf]; omega
      · have hbI : ¬ ((m : Int) * 10 ≥ 10000000) := by omega
        have hlow : m * 10 < 10000000 := by omega
        have Hlow := Lib.hid hlow
        clear hbig hm0 hkn hlow
        by_cases hlast : k + 1 = s.size
        · have ha1 : ((r : Int) * 10 + ((s[k].toNat : Int) - 48)) = ((r * 10 + D : Nat) : Int) := by have := HD.out; omega
          have ha3 : ((m : Int) * 10) = ((m * 10 : Nat) : Int) := by omega
          have ha2 : r * 10 + D < W0 := by have := Hlow.out; unfold W0; omega
          have ha4 : m * 10 < W0 := by have := Hlow.out; unfold W0; omega
          have ha5 : 0 < m * 10 := by omega
          have Ha := Lib.hid (⟨ha1, ha3, ha2, ha4, ha5⟩ : _ ∧ _ ∧ _ ∧ _ ∧ _)
          clear ha1 ha3 ha2 ha4 ha5
          go_wp2_with (go_at_call 47; rw [Ha.out.1, Ha.out.2.1]; refine (Hgc.out (m * 10) (r * 10 + D) Ha.out.2.2.2.1 Ha.out.2.2.2.2 Ha.out.2.2.1).mono ?_)
          rintro e w3 ⟨v3, rs, rfl, hrow3, hg3, hb3⟩
          have Hrow3 := Lib.hid hrow3; clear hrow3
          have Hg3 := Lib.hid hg3; clear hg3
          have Hb3 := Lib.hid hb3; clear hb3
          go_wp2
          go_roundw
          case rel => exact HGr.out _ _ _ Hg3.out Hrow3.out Hb3.out _ _ _ rfl rfl (by simp)
          case measure => simp [intOf]; omega
        · go_wp2
          go_roundw
          case rel => exact HG.out Hlow.out hlast _ _ _ (by have := HD.out; rw [show ((r : Int) * 10 + ((s[k].toNat : Int) - 48)) = ((r * 10 + D : Nat) : Int) from by omega]) (by simp) (by simp)
          case measure => simp [intOf]; omega
    · obtain rfl : k = s.size := by omega
      obtain rfl := hkn rfl
      have hse := fun w3 hput => set_end (w := w) (wr := wr) (w3 := w3) (g0 := g0) (neg := false) (A := A) (cap := cap) Hln.out hv hr hrow hw hp (by omega) ht hg0 hput
      have Hse := Lib.hid hse; clear hse
      have hpu := put_any wr g0 false A ws.length cap _ _ (Hblk.out.below ht hg0)
      have Hpu := Lib.hid hpu; clear hpu
      clear hv hrow hw hp
      go_wp2_with (go_at_call 34; refine Hpu.out.mono ?_)
      rintro e w3 hput
      obtain ⟨rfl, -⟩ := id hput
      have Hput := Lib.hid hput; clear hput
      go_wp2
      go_ret2
      exact Hse.out _ Hput.out
set_option maxRecDepth 100000 in
set_option maxHeartbeats 4000000 in
theorem setString_dash (w : World) (g0 base : Nat) (s : ByteArray) (hpos : 0 < s.size) (hsz : s.size ≤ 100000) (h45 : ((s[0].toNat : Int) == 45) = true) (hpos1 : 0 < (s.extract 1 s.size).size) (hdig : ∀ k (h : k < (s.extract 1 s.size).size), 48 ≤ ((s.extract 1 s.size)[k].toNat : Int) ∧ ((s.extract 1 s.size)[k].toNat : Int) ≤ 57) (u0 u1 : Value) (hblk : Blk w g0 43 #[u0, u1]) (hg0 : g0 < base) (hB : base ≤ w.heap.size) :
    Calls Tryz.prog 32 #[.pointer (some ⟨g0, 0, none⟩), .string s, .int .i64 10] w (SetOut w g0 base true ((s.extract 1 s.size).data.toList)) := by
  have Hblk := Lib.hid hblk; clear hblk
  have hts := Tp.size_tail s
  obtain ⟨t, ht0⟩ : ∃ t, s.extract 1 s.size = t := ⟨_, rfl⟩
  have Ht0 := Lib.hid ht0
  rw [ht0] at hts ⊢
  have hpos1' : 0 < t.size := by rw [← ht0]; exact hpos1
  have hdig' : ∀ k (h : k < t.size), 48 ≤ (t[k].toNat : Int) ∧ (t[k].toNat : Int) ≤ 57 := by subst ht0; exact hdig
  clear hdig hpos1
  have hemp : (t.toList == []) = false := by rw [ByteArray.toList_eq, beq_eq_false_iff_ne]; intro e; have h := Tp.len_data t; rw [e] at h; simp at h; omega
  have Hdig := Lib.hid hdig'; clear hdig'
  have Hln := Lib.hid (Tp.len_data t)
  obtain ⟨l, hl⟩ : ∃ l, t.data.toList = l := ⟨_, rfl⟩
  have Hl := Lib.hid hl
  rw [hl] at Hln ⊢
  clear hl
  go_enter Tryz.func32, Tryz.ntmps32
  go_wp2
  go_loopw [9, 10, 11, 12] (fun v rv bv iv wr => DigRel w base t.size l v rv bv iv wr) (fun _ _ _ iv _ => t.size - (intOf iv).toNat)
  case atStart => exact ⟨0, 0, 1, [], Nat.zero_le _, rfl, rfl, rfl, .inl rfl, by omega, rfl, fun _ => rfl, Row.nil _ _, fun x hx => (by cases hx), .inl rfl, Nat.zero_le _, Below.refl _ w⟩
  case round =>
    obtain ⟨k, r, m, ws, hk, rfl, rfl, rfl, hm0, hr, hv, hkn, hrow, hw, hp, hwl, ht⟩ := hrel
    obtain ⟨A, cap, rfl, -, -, -⟩ := hrow.formA
    by_cases hlt : k < t.size
    · have hks : k < t.size := hlt
      have hdig := Hdig.out k hks
      have hdd : ∃ c : UInt8, l[k]? = some c ∧ c.toNat - 48 = t[k].toNat - 48 := ⟨t[k], by rw [← Hl.out]; exact get_data t k hks, rfl⟩
      obtain ⟨D, hD⟩ : ∃ D, t[k].toNat - 48 = D := ⟨_, rfl⟩
      rw [hD] at hdd
      have hD9 : D ≤ 9 := by omega
      have HD := Lib.hid hD; clear hD
      have hG := fun hlow hlast rv bv iv h1 h2 h3 => scan_go (w := w) (wr := wr) (base := base) (v := .slice A ws.length cap) (d := D) Hln.out hlt hdd hD9 hm0 hr hv hrow hw hp hwl ht hlow hlast (rv := rv) (bv := bv) (iv := iv) h1 h2 h3
      have hGr := fun v' rs w3 hg hrow3 ht3 rv bv iv h1 h2 h3 => scan_grow (w := w) (wr := wr) (w3 := w3) (base := base) (ws := ws) (rs := rs) (v' := v') (m := m) (r := r) (d := D) Hln.out hlt hdd hv hg hrow3 hwl ht ht3 (rv := rv) (bv := bv) (iv := iv) h1 h2 h3
      have hgc := fun (m' add : Nat) h1 h2 h3 => grown_any wr base (.slice A ws.length cap) ws m' add hrow hw h1 h2 h3 hp (by omega) (by have := ht.size; omega)
      have HG := Lib.hid hG; clear hG
      have HGr := Lib.hid hGr; clear hGr
      have Hgc := Lib.hid hgc; clear hgc
      have Hdd := Lib.hid hdd; clear hdd
      have Ht := Lib.hid ht; clear ht
      clear hv hrow hw hp
      by_cases hbig : 10000000 ≤ m * 10
      · have hm : m = 1000000 := by unfold Tens at hm0; omega
        clear hbig hkn hm0
        subst hm
        have ha1 : ((r : Int) * 10 + ((t[k].toNat : Int) - 48)) = ((r * 10 + D : Nat) : Int) := by have := HD.out; omega
        have ha2 : r * 10 + D < W0 := by unfold W0; omega
        have hc10 : Calls Tryz.prog 47 #[.slice A ws.length cap, .int .u32 10000000, .int .u32 ((r * 10 + D : Nat) : Int)] wr (GrownOut wr base ws (1000000 * 10) (r * 10 + D)) := Hgc.out (1000000 * 10) (r * 10 + D) (by decide) (by decide) ha2
        rw [← ha1] at hc10
        have Hc10 := Lib.hid hc10; clear hc10 ha1 ha2
        go_wp2_with (go_at_call 47; refine Hc10.out.mono ?_)
        rintro e w3 ⟨v3, rs, rfl, hrow3, hg3, hb3⟩
        have Hrow3 := Lib.hid hrow3; clear hrow3
        have Hg3 := Lib.hid hg3; clear hg3
        have Hb3 := Lib.hid hb3; clear hb3
        go_wp2
        go_roundw
        case rel => exact HGr.out _ _ _ Hg3.out Hrow3.out Hb3.out _ _ _ rfl rfl (by simp)
        case measure => simp [intOf]; omega
      · have hbI : ¬ ((m : Int) * 10 ≥ 10000000) := by omega
        have hlow : m * 10 < 10000000 := by omega
        have Hlow := Lib.hid hlow
        clear hbig hm0 hkn hlow
        by_cases hlast : k + 1 = t.size
        · have ha1 : ((r : Int) * 10 + ((t[k].toNat : Int) - 48)) = ((r * 10 + D : Nat) : Int) := by have := HD.out; omega
          have ha3 : ((m : Int) * 10) = ((m * 10 : Nat) : Int) := by omega
          have ha2 : r * 10 + D < W0 := by have := Hlow.out; unfold W0; omega
          have ha4 : m * 10 < W0 := by have := Hlow.out; unfold W0; omega
          have ha5 : 0 < m * 10 := by omega
          have Ha := Lib.hid (⟨ha1, ha3, ha2, ha4, ha5⟩ : _ ∧ _ ∧ _ ∧ _ ∧ _)
          clear ha1 ha3 ha2 ha4 ha5
          go_wp2_with (go_at_call 47; rw [Ha.out.1, Ha.out.2.1]; refine (Hgc.out (m * 10) (r * 10 + D) Ha.out.2.2.2.1 Ha.out.2.2.2.2 Ha.out.2.2.1).mono ?_)
          rintro e w3 ⟨v3, rs, rfl, hrow3, hg3, hb3⟩
          have Hrow3 := Lib.hid hrow3; clear hrow3
          have Hg3 := Lib.hid hg3; clear hg3
          have Hb3 := Lib.hid hb3; clear hb3
          go_wp2
          go_roundw
          case rel => exact HGr.out _ _ _ Hg3.out Hrow3.out Hb3.out _ _ _ rfl rfl (by simp)
          case measure => simp [intOf]; omega
        · go_wp2
          go_roundw
          case rel => exact HG.out Hlow.out hlast _ _ _ (by have := HD.out; rw [show ((r : Int) * 10 + ((t[k].toNat : Int) - 48)) = ((r * 10 + D : Nat) : Int) from by omega]) (by simp) (by simp)
          case measure => simp [intOf]; omega
    · obtain rfl : k = t.size := by omega
      obtain rfl := hkn rfl
      have hse := fun w3 hput => set_end (w := w) (wr := wr) (w3 := w3) (g0 := g0) (neg := true) (A := A) (cap := cap) Hln.out hv hr hrow hw hp (by omega) ht hg0 hput
      have Hse := Lib.hid hse; clear hse
      have hpu := put_any wr g0 true A ws.length cap _ _ (Hblk.out.below ht hg0)
      have Hpu := Lib.hid hpu; clear hpu
      clear hv hrow hw hp
      go_wp2_with (go_at_call 34; refine Hpu.out.mono ?_)
      rintro e w3 hput
      obtain ⟨rfl, -⟩ := id hput
      have Hput := Lib.hid hput; clear hput
      go_wp2
      go_ret2
      exact Hse.out _ Hput.out
end Go.Proofs.YtbblbolpcdkggaaGreatFmt
