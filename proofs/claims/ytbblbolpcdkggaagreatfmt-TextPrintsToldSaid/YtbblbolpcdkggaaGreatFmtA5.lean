/-
  Walks: math/big's nat.scan at base 10, over a reader whose bytes left are digits.
-/
import Derived.Test.YtbblbolpcdkggaaGreatFmtA4
import Derived.Test.YtbblbolpcdkggaaGreatFmtA2
import Derived.LaidEql
namespace Go.Proofs.YtbblbolpcdkggaaGreatFmt
open Go.RowKit
theorem comp243 : ((Tryz.prog.info? 243).map (·.comparable)) = some true := by kernel_rfl
theorem info245 : (Tryz.prog.info? 245).isSome = true := by kernel_rfl
theorem eof_eql (a : Addr) (w : World) : (binOp .eql 55 (.iface 243 (.pointer (some a))) (.iface 243 (.pointer (some a)))).run Tryz.prog w = .ok (.bool true) w := by
  obtain ⟨i, hi, hc⟩ := Option.map_eq_some_iff.1 comp243
  obtain ⟨j, hj⟩ := Option.isSome_iff_exists.1 info245
  exact run_eql_iface_ptr_same w a Tryz.underlying55 Tryz.underlying243 hi hc hj
theorem eof_neq (a : Addr) (w : World) : (binOp .neq 55 (.iface 243 (.pointer (some a))) (.iface 243 (.pointer (some a)))).run Tryz.prog w = .ok (.bool false) w := by
  have h := eof_eql a w
  simp only [binOp] at h ⊢
  cases he : (Op.equal 55 (.iface 243 (.pointer (some a))) (.iface 243 (.pointer (some a)))).run Tryz.prog w with
  | ok x y => simp [he] at h ⊢; exact h
  | halt x y => simp [he] at h
theorem natv_ne {w : World} {base n R : Nat} {v : Value} {t : TypeId} {cs : Array Value} (h : NatV w base v n) (hR : Blk w R t cs) (ht : t ≠ 111) : ¬ Own v R := fun e => by
  obtain ⟨_, _, cs', hb⟩ := h.lt e
  exact hR.ne_ hb ht rfl
theorem int_eq {k : IntKind} {a b : Int} (h : a = b) : Value.int k a = .int k b := by rw [h]
def Eof (a : Addr) : Value := .iface 243 (.pointer (some a))
/-- The loop's head: p bytes are taken in. -/
def ScanRel (w : World) (base R i0 : Nat) (s : ByteArray) (a : Addr) (z f cnt er pv iv ch di i dp : Value) (wr : World) : Prop :=
  ∃ p j n : Nat, ∃ d q : Int, i0 ≤ p ∧ p ≤ s.size ∧ j < 19 ∧ n ≤ p ∧ U64 d ∧ (q = 46 ∨ q = 48) ∧ NatV wr base z n ∧ f = .bool false ∧ cnt = .int .i64 ((p - i0 : Nat) : Int) ∧
    pv = .int .i32 q ∧ iv = .bool false ∧ di = .int .u64 d ∧ i = .int .i64 j ∧ dp = .int .i64 (-1) ∧ Tch (fun k => k = R ∨ base ≤ k) w wr ∧ base ≤ wr.heap.size ∧
    ((∃ h : p < s.size, ch = .int .u8 (s[p].toNat : Int) ∧ er = .nilIface ∧ Blk wr R 133 #[.string s, .int .i64 ((p + 1 : Nat) : Int), .int .i64 (-1)]) ∨
     (p = s.size ∧ ch = .int .u8 0 ∧ er = .iface 243 (.pointer (some a)) ∧ Blk wr R 133 #[.string s, .int .i64 (s.size : Nat), .int .i64 (-1)]))
def ScanOut (w : World) (base R i0 : Nat) (s : ByteArray) (e : Ending) (w' : World) : Prop :=
  ∃ v n, e = .returned (.tuple #[v, .int .i64 10, .int .i64 ((s.size - i0 : Nat) : Int), .nilIface]) ∧ NatV w' base v n ∧ n ≤ s.size + 1 ∧ Tch (fun k => k = R ∨ base ≤ k) w w' ∧
    Blk w' R 133 #[.string s, .int .i64 (s.size : Nat), .int .i64 (-1)]
set_option maxRecDepth 100000 in
set_option maxHeartbeats 1000000 in
theorem scan_digits (w : World) (base R i0 : Nat) (s : ByteArray) (a : Addr) (hR : Blk w R 133 #[.string s, .int .i64 (i0 : Nat), .int .i64 (-1)]) (hb : 0 < R) (hB : base ≤ w.heap.size) (hi : i0 < s.size) (hs : s.size ≤ 100000)
    (hdig : ∀ (k : Nat) (h : k < s.size), i0 ≤ k → 48 ≤ (s[k].toNat : Int) ∧ (s[k].toNat : Int) ≤ 57) (hE : w.cell? ⟨0, 0, none⟩ = some (.iface 243 (.pointer (some a)))) (hb0 : 0 < base) :
    Calls Tryz.prog 112 #[.slice none 0 0, .iface 108 (.pointer (some ⟨R, 0, none⟩)), .int .i64 10, .bool false] w (ScanOut w base R i0 s) := by
  have hs63 : s.size ≤ maxLen := by unfold maxLen; omega
  have Hdig := Lib.hid hdig; clear hdig
  have hE0 := Lib.hid hE; clear hE
  go_enter Tryz.func112, Tryz.ntmps112
  go_wp2_with (first
    | (go_at_call 318; refine (readByte_yes _ _ _ i0 _ hR hi hs63).mono ?_; rintro e w1 ⟨rfl, hb1, ht1, hz1⟩)
    | (go_at_call 100; refine (maxPow_ten _).mono ?_; rintro e w' ⟨rfl, rfl⟩))
  go_loopw [0, 3, 10, 11, 13, 14, 15, 20, 21, 22] (fun z f cnt er pv iv ch di i dp wr => ScanRel w base R i0 s a z f cnt er pv iv ch di i dp wr) (fun _ _ cnt _ _ _ _ _ _ _ _ => s.size - i0 - (intOf cnt).toNat)
  case atStart =>
    exact ⟨i0, 0, 0, 0, 46, Nat.le_refl _, by omega, by omega, by omega, ⟨by omega, by omega⟩, .inl rfl, .inl ⟨rfl, rfl⟩, rfl, by simp, rfl, rfl, rfl, rfl, rfl, ht1.mono (fun k e => .inl e), by omega, .inl ⟨hi, rfl, rfl, hb1⟩⟩
  case round =>
    obtain ⟨p, j, n, d, q, hp0, hps, hj, hn, hd, hq, hz, rfl, rfl, rfl, rfl, rfl, rfl, rfl, ht, hbs, hnext⟩ := hrel
    rcases hnext with ⟨hlt, rfl, rfl, hB⟩ | ⟨rfl, rfl, rfl, hB⟩
    · obtain ⟨c1, c2⟩ := Hdig.out p hlt hp0
      have Hz := Lib.hid hz; clear hz
      have Hb := Lib.hid hB; clear hB hb1 hR
      have Ht := Lib.hid ht; clear ht ht1 hz1
      by_cases hj18 : j + 1 = 19
      · have hj1 : (((j : Int) + 1) == 19) = true := by rw [beq_iff_eq]; omega
        clear hj18
        by_cases hnx : p + 1 < s.size
        · go_wp2_with (go_at_call 140; refine (mulAddWW_any _ base n _ _ _ Hz.out hbs ⟨by omega, by omega⟩ (wrap_U64 _) (by unfold NatBig; omega)).mono ?_; rintro e w3 ⟨z3, n3, rfl, hz3, hn3, ht3⟩)
          have Hb3 := Lib.hid (Hb.out.tch ht3 (natv_ne Hz.out Hb.out (by decide)))
          have hn3' : n3 ≤ p + 1 := by omega
          have hs3 := ht3.size
          have ht3b := ht3.mono (S' := fun k => k = R ∨ base ≤ k) (fun k h => .inr (Hz.out.lt h).1)
          have Ht3 := Lib.hid ht3b
          clear ht3b ht3
          refine (readByte_yes _ _ _ (p + 1) _ Hb3.out hnx hs63).mono ?_
          rintro e w2 ⟨rfl, hb2, ht2, hz2⟩
          go_wp2
          go_roundw
          case rel =>
            exact ⟨p + 1, 0, n3, 0, 48, by omega, by omega, by omega, by omega, ⟨by omega, by omega⟩, .inr rfl, hz3.tch ht2 (fun k h e => natv_ne hz3 Hb3.out (by decide) (by subst e; exact h)), rfl,
              int_eq (by omega), rfl, rfl, rfl, rfl, rfl, (Ht.out.then Ht3.out).then (ht2.mono fun k e => .inl e), by omega, .inl ⟨hnx, rfl, rfl, hb2⟩⟩
          case measure => simp [intOf]; omega
        · have hpe : p + 1 = s.size := by omega
          have hE1 : wr.cell? ⟨0, 0, none⟩ = some (.iface 243 (.pointer (some a))) := Ht.out.cell hE0.out (fun e => by simp at e; omega)
          have HE1 := Lib.hid hE1; clear hE1
          have Hpe := Lib.hid hpe; clear hpe
          go_wp2_with (go_at_call 140; refine (mulAddWW_any _ base n _ _ _ Hz.out hbs ⟨by omega, by omega⟩ (wrap_U64 _) (by unfold NatBig; omega)).mono ?_; rintro e w3 ⟨z3, n3, rfl, hz3, hn3, ht3⟩)
          have Hb3 := Lib.hid (Hb.out.tch ht3 (natv_ne Hz.out Hb.out (by decide)))
          have hn3' : n3 ≤ p + 1 := by omega
          have hs3 := ht3.size
          have ht3b := ht3.mono (S' := fun k => k = R ∨ base ≤ k) (fun k h => .inr (Hz.out.lt h).1)
          have Ht3 := Lib.hid ht3b
          clear ht3b ht3
          have hE3 : w3.cell? ⟨0, 0, none⟩ = some (.iface 243 (.pointer (some a))) := Ht3.out.cell HE1.out (fun e => by simp at e; omega)
          have Hb' := Lib.hid (p := Blk w3 R 133 #[.string s, .int .i64 (s.size : Nat), .int .i64 (-1)]) (by rw [← Hpe.out]; exact Hb3.out)
          refine (readByte_eof _ _ _ _ _ Hb'.out hE3).mono ?_
          rintro e w2 ⟨rfl, hb2, ht2, hz2⟩
          go_wp2
          go_roundw
          case rel =>
            exact ⟨p + 1, 0, n3, 0, 48, by omega, by omega, by omega, by omega, ⟨by omega, by omega⟩, .inr rfl, hz3.tch ht2 (fun k h e => natv_ne hz3 Hb3.out (by decide) (by subst e; exact h)), rfl,
              int_eq (by omega), rfl, rfl, rfl, rfl, rfl, (Ht.out.then Ht3.out).then (ht2.mono fun k e => .inl e), by omega, .inr ⟨Hpe.out, rfl, rfl, hb2⟩⟩
          case measure => simp [intOf]; omega
      · have hj1 : (((j : Int) + 1) == 19) = false := by rw [beq_eq_false_iff_ne]; omega
        have hjj : j + 1 < 19 := by omega
        clear hj18
        by_cases hnx : p + 1 < s.size
        · go_wp2_with (go_at_call 318; refine (readByte_yes _ _ _ (p + 1) _ Hb.out hnx hs63).mono ?_; rintro e w2 ⟨rfl, hb2, ht2, hz2⟩)
          go_roundw
          case rel =>
            exact ⟨p + 1, j + 1, n, _, 48, by omega, by omega, by omega, by omega, wrap_U64 _, .inr rfl, Hz.out.tch ht2 (fun k h e => natv_ne Hz.out Hb.out (by decide) (by subst e; exact h)), rfl,
              int_eq (by omega), rfl, rfl, rfl, by go_num, rfl, Ht.out.then (ht2.mono fun k e => .inl e), by omega, .inl ⟨hnx, rfl, rfl, hb2⟩⟩
          case measure => simp [intOf]; omega
        · have hpe : p + 1 = s.size := by omega
          have hE1 : wr.cell? ⟨0, 0, none⟩ = some (.iface 243 (.pointer (some a))) := Ht.out.cell hE0.out (fun e => by simp at e; omega)
          have Hb' := Lib.hid (p := Blk wr R 133 #[.string s, .int .i64 (s.size : Nat), .int .i64 (-1)]) (by rw [← hpe]; exact Hb.out)
          have Hpe := Lib.hid hpe; clear hpe
          go_wp2_with (go_at_call 318; refine (readByte_eof _ _ _ _ _ Hb'.out hE1).mono ?_; rintro e w2 ⟨rfl, hb2, ht2, hz2⟩)
          go_roundw
          case rel =>
            exact ⟨p + 1, j + 1, n, _, 48, by omega, by omega, by omega, by omega, wrap_U64 _, .inr rfl, Hz.out.tch ht2 (fun k h e => natv_ne Hz.out Hb.out (by decide) (by subst e; exact h)), rfl,
              int_eq (by omega), rfl, rfl, rfl, by go_num, rfl, Ht.out.then (ht2.mono fun k e => .inl e), by omega, .inr ⟨Hpe.out, rfl, rfl, hb2⟩⟩
          case measure => simp [intOf]; omega
    · have hE1 : wr.cell? ⟨0, 0, none⟩ = some (.iface 243 (.pointer (some a))) := ht.cell hE0.out (fun e => by simp at e; omega)
      have heq := eof_eql a
      have hcnt : ((((s.size - i0 : Nat) : Int)) == 0) = false := by rw [beq_eq_false_iff_ne]; omega
      have Hz := Lib.hid hz; clear hz
      have Hb := Lib.hid hB; clear hB hb1 hR
      have Ht := Lib.hid ht; clear ht ht1 hz1
      have hqq : ((q : Int) == 95) = false := by rw [beq_eq_false_iff_ne]; omega
      by_cases hj0 : 0 < j
      · go_wp2_with (first
          | (go_at_call 141; refine (pow_any _ _ _ ⟨by omega, by omega⟩ (by omega) (by omega)).mono ?_; rintro e w' ⟨⟨y, hy, rfl⟩, rfl⟩)
          | (go_at_call 140; refine (mulAddWW_any _ base n _ _ _ Hz.out hbs (by assumption) hd (by unfold NatBig; omega)).mono ?_; rintro e w3 ⟨z3, n3, rfl, hz3, hn3, ht3⟩))
        go_returns
        exact ⟨z3, n3, rfl, hz3, by omega, Ht.out.then (ht3.mono fun k h => .inr (Hz.out.lt h).1), Hb.out.tch ht3 (natv_ne Hz.out Hb.out (by decide))⟩
      · go_wp2
        go_returns
        exact ⟨_, n, rfl, Hz.out, by omega, Ht.out, Hb.out⟩
end Go.Proofs.YtbblbolpcdkggaaGreatFmt
/-
  Walks: (*math/big.Int).scan at base 10, setFromScanner, SetString.
-/
namespace Go.Proofs.YtbblbolpcdkggaaGreatFmt
open Go.RowKit
def DigFrom (s : ByteArray) (i0 : Nat) : Prop := ∀ (k : Nat) (h : k < s.size), i0 ≤ k → 48 ≤ (s[k].toNat : Int) ∧ (s[k].toNat : Int) ≤ 57
theorem NatV.slice {w : World} {base n : Nat} {v : Value} (h : NatV w base v n) : ∃ A c, v = .slice A n c := by
  rcases h with ⟨rfl, rfl⟩ | ⟨g, cs, rfl, _⟩
  · exact ⟨_, _, rfl⟩
  · exact ⟨_, _, rfl⟩
/-- What scan leaves: the Int is some number; the reader is at its end; nothing else is changed. -/
def IScanOut (w : World) (R Z : Nat) (s : ByteArray) (r : Ending) (e : Ending) (w' : World) : Prop :=
  e = r ∧ (∃ (b : Bool) (v : Value) (n : Nat), Blk w' Z 69 #[.bool b, v] ∧ NatV w' w.heap.size v n) ∧ Tch (fun k => k = R ∨ k = Z) w w' ∧ Blk w' R 133 #[.string s, .int .i64 (s.size : Nat), .int .i64 (-1)]
theorem scan_end {w w1 w2 : World} {R Z n : Nat} {s : ByteArray} {b0 : Bool} {v : Value} {r : Ending} (hRZ : R ≠ Z) (hZl : Z < w.heap.size)
    (ht1 : Tch (· = R) w w1) (ht2 : Tch (fun k => k = R ∨ w.heap.size ≤ k) w1 w2) (hZ : Blk w2 Z 69 #[.bool b0, .slice none 0 0]) (hv : NatV w2 w.heap.size v n)
    (hR2 : Blk w2 R 133 #[.string s, .int .i64 (s.size : Nat), .int .i64 (-1)]) (b : Bool) :
    IScanOut w R Z s r r ((w2.setCell ⟨Z, 1, none⟩ v).setCell ⟨Z, 0, none⟩ (.bool b)) := by
  have ht : Tch (· = Z) w2 ((w2.setCell ⟨Z, 1, none⟩ v).setCell ⟨Z, 0, none⟩ (.bool b)) := (by repeat (first | exact Tch.refl _ _ | with_reducible assumption | refine Tch.drewN ?_ _ | refine Tch.drew ?_ | refine Tch.setCell ?_ (fun _ => by show _ = _; rfl) _ | refine Tch.alloc ?_ _))
  refine ⟨rfl, ⟨b, v, n, (hZ.set_ 1 v).set_ 0 (.bool b), hv.tch ht (fun k hk e => by have h := (hv.lt hk).1; omega)⟩, ?_, (hR2.far (p := ⟨Z, 1, none⟩) hRZ _).far (p := ⟨Z, 0, none⟩) hRZ _⟩
  exact ((ht1.trans ht2 (fun k hk e => by omega)).mono (fun k e => .inl e)).trans ht (fun k _ e => .inr e)
set_option maxHeartbeats 1000000 in
theorem iscan_digit (w : World) (R Z : Nat) (s : ByteArray) (a : Addr) (b0 : Bool) (hR : Blk w R 133 #[.string s, .int .i64 0, .int .i64 (-1)]) (hZ : Blk w Z 69 #[.bool b0, .slice none 0 0])
    (hR0 : 0 < R) (hi : 0 < s.size) (hs : s.size ≤ 100000) (hdig : DigFrom s 0) (hE : w.cell? ⟨0, 0, none⟩ = some (.iface 243 (.pointer (some a)))) :
    Calls Tryz.prog 90 #[.pointer (some ⟨Z, 0, none⟩), .iface 108 (.pointer (some ⟨R, 0, none⟩)), .int .i64 10] w (IScanOut w R Z s (.returned (.tuple #[.pointer (some ⟨Z, 0, none⟩), .int .i64 10, .nilIface]))) := by
  have h00 := hdig 0 hi (Nat.le_refl _)
  have hs63 : s.size ≤ maxLen := by unfold maxLen; omega
  have hR' := Lib.hid hR; clear hR
  have hZ' := Lib.hid hZ; clear hZ
  have hE' := Lib.hid hE; clear hE
  go_enter Tryz.func90, Tryz.ntmps90
  go_wp2_with fail
  refine (scanSign_digit w R s hR'.out hi hs63 (by rw [beq_eq_false_iff_ne]; omega) (by rw [beq_eq_false_iff_ne]; omega)).mono ?_
  rintro e w1 ⟨rfl, hR1, ht1, hz1⟩
  have hRZ : R ≠ Z := hR'.out.ne_ hZ'.out (by decide)
  have hRl := hR'.out.lt
  have hZl := hZ'.out.lt
  have hZ1 := hZ'.out.tch ht1 (fun e => hRZ e.symm)
  have hc1 := hZ1.cell 1
  simp only [List.getElem?_toArray, List.getElem?_cons_succ, List.getElem?_cons_zero] at hc1
  have hE1 := ht1.cell hE'.out (fun e => by simp at e; omega)
  have hR1' := Lib.hid hR1; clear hR1
  have hZ1' := Lib.hid hZ1; clear hZ1
  have hE1' := Lib.hid hE1; clear hE1
  go_wp2_with fail
  refine (scan_digits w1 w.heap.size R 0 s a hR1'.out hR0 (by omega) hi hs hdig hE1'.out (by omega)).mono ?_
  rintro e w2 ⟨v, n, rfl, hv, hn, ht2, hR2⟩
  obtain ⟨A, c, rfl⟩ := hv.slice
  have hZ2 := hZ1'.out.tch ht2 (fun e => by omega)
  have hf1 := hZ2.frozen 1
  have hf0 := hZ2.frozen 0
  have hd1 := hZ2.cell 1
  have hd0 := hZ2.cell 0
  simp only [List.getElem?_toArray, List.getElem?_cons_succ, List.getElem?_cons_zero] at hd1 hd0
  have hZ2' := Lib.hid hZ2; clear hZ2
  go_wp2
  all_goals
    go_returns
    exact scan_end hRZ hZl ht1 ht2 hZ2'.out hv hR2 _
set_option maxHeartbeats 1000000 in
theorem iscan_dash (w : World) (R Z : Nat) (s : ByteArray) (a : Addr) (b0 : Bool) (hR : Blk w R 133 #[.string s, .int .i64 0, .int .i64 (-1)]) (hZ : Blk w Z 69 #[.bool b0, .slice none 0 0])
    (hR0 : 0 < R) (hi : 0 < s.size) (hs : s.size ≤ 100000) (h45 : ((s[0].toNat : Int) == 45) = true) (hi1 : 1 < s.size) (hdig : DigFrom s 1) (hE : w.cell? ⟨0, 0, none⟩ = some (.iface 243 (.pointer (some a)))) :
    Calls Tryz.prog 90 #[.pointer (some ⟨Z, 0, none⟩), .iface 108 (.pointer (some ⟨R, 0, none⟩)), .int .i64 10] w (IScanOut w R Z s (.returned (.tuple #[.pointer (some ⟨Z, 0, none⟩), .int .i64 10, .nilIface]))) := by
  have hs63 : s.size ≤ maxLen := by unfold maxLen; omega
  have hR' := Lib.hid hR; clear hR
  have hZ' := Lib.hid hZ; clear hZ
  have hE' := Lib.hid hE; clear hE
  go_enter Tryz.func90, Tryz.ntmps90
  go_wp2_with fail
  refine (scanSign_dash w R s hR'.out hi hs63 h45).mono ?_
  rintro e w1 ⟨rfl, hR1, ht1, hz1⟩
  have hRZ : R ≠ Z := hR'.out.ne_ hZ'.out (by decide)
  have hRl := hR'.out.lt
  have hZl := hZ'.out.lt
  have hZ1 := hZ'.out.tch ht1 (fun e => hRZ e.symm)
  have hc1 := hZ1.cell 1
  simp only [List.getElem?_toArray, List.getElem?_cons_succ, List.getElem?_cons_zero] at hc1
  have hE1 := ht1.cell hE'.out (fun e => by simp at e; omega)
  have hR1' := Lib.hid hR1; clear hR1
  have hZ1' := Lib.hid hZ1; clear hZ1
  have hE1' := Lib.hid hE1; clear hE1
  go_wp2_with fail
  refine (scan_digits w1 w.heap.size R 1 s a hR1'.out hR0 (by omega) hi1 hs hdig hE1'.out (by omega)).mono ?_
  rintro e w2 ⟨v, n, rfl, hv, hn, ht2, hR2⟩
  obtain ⟨A, c, rfl⟩ := hv.slice
  have hZ2 := hZ1'.out.tch ht2 (fun e => by omega)
  have hf1 := hZ2.frozen 1
  have hf0 := hZ2.frozen 0
  have hd1 := hZ2.cell 1
  have hd0 := hZ2.cell 0
  simp only [List.getElem?_toArray, List.getElem?_cons_succ, List.getElem?_cons_zero] at hd1 hd0
  have hZ2' := Lib.hid hZ2; clear hZ2
  go_wp2
  all_goals
    go_returns
    exact scan_end hRZ hZl ht1 ht2 hZ2'.out hv hR2 _
end Go.Proofs.YtbblbolpcdkggaaGreatFmt
/-
  Walks: (*math/big.Int).setFromScanner, SetString; exact.number.
-/
namespace Go.Proofs.YtbblbolpcdkggaaGreatFmt
open Go.RowKit
theorem NatV.low {w : World} {base base' n : Nat} {v : Value} (h : NatV w base v n) (hb : base' ≤ base) : NatV w base' v n := by
  rcases h with h | ⟨g, cs, h0, h1, h2, h3, h4, h5⟩
  · exact .inl h
  · exact .inr ⟨g, cs, h0, h1, h2, h3, by omega, h5⟩
/-- The text's form as the scanner wants it. -/
def Scans (s : ByteArray) : Prop := 0 < s.size ∧ s.size ≤ 100000 ∧ (DigFrom s 0 ∨ ∃ h : 0 < s.size, ((s[0].toNat : Int) == 45) = true ∧ 1 < s.size ∧ DigFrom s 1)
theorem iscan_any (w : World) (R Z : Nat) (s : ByteArray) (a : Addr) (b0 : Bool) (hR : Blk w R 133 #[.string s, .int .i64 0, .int .i64 (-1)]) (hZ : Blk w Z 69 #[.bool b0, .slice none 0 0])
    (hR0 : 0 < R) (hs : Scans s) (hE : w.cell? ⟨0, 0, none⟩ = some (.iface 243 (.pointer (some a)))) :
    Calls Tryz.prog 90 #[.pointer (some ⟨Z, 0, none⟩), .iface 108 (.pointer (some ⟨R, 0, none⟩)), .int .i64 10] w (IScanOut w R Z s (.returned (.tuple #[.pointer (some ⟨Z, 0, none⟩), .int .i64 10, .nilIface]))) := by
  obtain ⟨hi, hsz, hd | ⟨h, h45, hi1, hd⟩⟩ := hs
  · exact iscan_digit w R Z s a b0 hR hZ hR0 hi hsz hd hE
  · exact iscan_dash w R Z s a b0 hR hZ hR0 hi hsz h45 hi1 hd hE
def SFOut (w : World) (R Z : Nat) (r : Ending) (e : Ending) (w' : World) : Prop :=
  e = r ∧ (∃ (b : Bool) (v : Value) (n : Nat), Blk w' Z 69 #[.bool b, v] ∧ NatV w' w.heap.size v n) ∧ Tch (fun k => k = R ∨ k = Z) w w'
set_option maxHeartbeats 1000000 in
theorem setFromScanner_any (w : World) (R Z : Nat) (s : ByteArray) (a : Addr) (b0 : Bool) (hR : Blk w R 133 #[.string s, .int .i64 0, .int .i64 (-1)]) (hZ : Blk w Z 69 #[.bool b0, .slice none 0 0])
    (hR0 : 0 < R) (hZ0 : 0 < Z) (hs : Scans s) (hE : w.cell? ⟨0, 0, none⟩ = some (.iface 243 (.pointer (some a)))) :
    Calls Tryz.prog 75 #[.pointer (some ⟨Z, 0, none⟩), .iface 108 (.pointer (some ⟨R, 0, none⟩)), .int .i64 10] w (SFOut w R Z (.returned (.tuple #[.pointer (some ⟨Z, 0, none⟩), .bool true]))) := by
  have hRl := hR.lt
  have hR' := Lib.hid hR; clear hR
  have hZ' := Lib.hid hZ; clear hZ
  have hE' := Lib.hid hE; clear hE
  go_enter Tryz.func75, Tryz.ntmps75
  go_wp2_with fail
  refine (iscan_any w R Z s a b0 hR'.out hZ'.out hR0 hs hE'.out).mono ?_
  rintro e w1 ⟨rfl, hnat, ht1, hR1⟩
  have hE1 := ht1.cell hE'.out (fun e => by simp at e; omega)
  have hR1' := Lib.hid hR1; clear hR1
  have Hn := Lib.hid hnat; clear hnat
  go_wp2_with fail
  refine (readByte_eof w1 R s _ _ hR1'.out hE1).mono ?_
  rintro e w2 ⟨rfl, hR2, ht2, hz2⟩
  have hne := eof_neq a
  have hE2 := ht2.cell hE1 (fun e => by simp at e; omega)
  go_wp2
  go_returns
  have hRZ : R ≠ Z := hR'.out.ne_ hZ'.out (by decide)
  obtain ⟨b, v, n, h1, h2⟩ := Hn.out
  exact ⟨rfl, ⟨b, v, n, h1.tch ht2 (fun e => hRZ e.symm), h2.tch ht2 (fun k hk e => by have h := (h2.lt hk).1; omega)⟩, ht1.trans ht2 (fun k _ e => .inl e)⟩
set_option maxHeartbeats 1000000 in
theorem setString_any (w : World) (Z : Nat) (s : ByteArray) (a : Addr) (b0 : Bool) (hZ : Blk w Z 69 #[.bool b0, .slice none 0 0])
    (hZ0 : 0 < Z) (hs : Scans s) (hE : w.cell? ⟨0, 0, none⟩ = some (.iface 243 (.pointer (some a)))) :
    Calls Tryz.prog 60 #[.pointer (some ⟨Z, 0, none⟩), .string s, .int .i64 10] w fun e w' => e = .returned (.tuple #[.pointer (some ⟨Z, 0, none⟩), .bool true]) ∧
      (∃ (b : Bool) (v : Value) (n : Nat), Blk w' Z 69 #[.bool b, v] ∧ NatV w' w.heap.size v n) ∧ Tch (· = Z) w w' := by
  have hZl := hZ.lt
  have hZ' := Lib.hid hZ; clear hZ
  have hE' := Lib.hid hE; clear hE
  go_enter Tryz.func60, Tryz.ntmps60
  go_wp2_with fail
  refine (newReader_any w s).mono ?_
  rintro e w1 ⟨rfl, rfl⟩
  have hR := Blk.new w 133 #[.string s, .int .i64 0, .int .i64 (-1)]
  have hZ1 := hZ'.out.alloc (.cells #[.string s, .int .i64 0, .int .i64 (-1)] 133)
  have ht1 : Tch Nil w (w.alloc (.cells #[.string s, .int .i64 0, .int .i64 (-1)] 133)) := (Tch.refl _ _).alloc _
  have hE1 := ht1.cell hE'.out (fun e => e)
  have hR' := Lib.hid hR; clear hR
  have hZ1' := Lib.hid hZ1; clear hZ1
  have hE1' := Lib.hid hE1; clear hE1
  go_wp2_with fail
  refine (setFromScanner_any _ w.heap.size Z s a b0 hR'.out hZ1'.out (by omega) hZ0 hs hE1'.out).mono ?_
  rintro e w2 ⟨rfl, hnat, ht2⟩
  have Hn := Lib.hid hnat; clear hnat
  have Ht1 := Lib.hid ht1; clear ht1
  go_wp2
  go_ret2
  obtain ⟨b, v, n, h1, h2⟩ := Hn.out
  exact ⟨rfl, ⟨b, v, n, h1, h2.low (by simp)⟩, (Ht1.out.nil _).trans ht2 (fun k hk e => by omega)⟩
def NewNum (w : World) (e : Ending) (w' : World) : Prop := ∃ Z, e = .returned (.pointer (some ⟨Z, 0, none⟩)) ∧ w.heap.size ≤ Z ∧ (∃ (b : Bool) (v : Value) (n : Nat), Blk w' Z 69 #[.bool b, v] ∧ NatV w' w.heap.size v n) ∧ Tch Nil w w'
set_option maxHeartbeats 1000000 in
theorem number_any (w : World) (s : ByteArray) (a : Addr) (hw : 0 < w.heap.size) (hs : Scans s) (hE : w.cell? ⟨0, 0, none⟩ = some (.iface 243 (.pointer (some a)))) :
    Calls Tryz.prog 52 #[.string s] w (NewNum w) := by
  have hZ := Blk.new w 69 #[.bool false, .slice none 0 0]
  have ht1 : Tch Nil w (w.alloc (.cells #[.bool false, .slice none 0 0] 69)) := (Tch.refl _ _).alloc _
  have hE1 := ht1.cell hE (fun e => e)
  have hE' := Lib.hid hE1; clear hE1 hE
  have hZ' := Lib.hid hZ; clear hZ
  have Ht1 := Lib.hid ht1; clear ht1
  go_enter Tryz.func52, Tryz.ntmps52
  go_wp2_with fail
  refine (setString_any _ w.heap.size s a false hZ'.out hw hs hE'.out).mono ?_
  rintro e w2 ⟨rfl, hnat, ht2⟩
  have Hn := Lib.hid hnat; clear hnat
  go_wp2
  go_ret
  obtain ⟨b, v, n, h1, h2⟩ := Hn.out
  exact ⟨w.heap.size, rfl, Nat.le_refl _, ⟨b, v, n, h1, h2.low (by simp)⟩, Ht1.out.trans ht2 (fun k hk e => by omega)⟩
end Go.Proofs.YtbblbolpcdkggaaGreatFmt
