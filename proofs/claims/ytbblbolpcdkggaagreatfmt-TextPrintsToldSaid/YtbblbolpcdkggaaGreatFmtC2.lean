/-
  Walks: the text "2" through SetString: the number 2, to the word.
-/
import Derived.Test.YtbblbolpcdkggaaGreatFmtA5
import Derived.Laws.CopyOwn
import Derived.Deep.RegionWith
import Derived.Deep.RegionHeld3
import Derived.StillTailTactics
namespace Go.Proofs.YtbblbolpcdkggaaGreatFmt
open Go.RowKit
/-- A nat of one word, in a block of its own. -/
def W1 (w : World) (base : Nat) (v : Value) (x : Int) : Prop := ∃ g, v = .slice (some ⟨g, 0, none⟩) 1 1 ∧ Blk w g 111 #[.int .u64 x] ∧ base ≤ g
theorem W1.tch {w w' : World} {base : Nat} {v : Value} {x : Int} {S : Nat → Prop} (h : W1 w base v x) (ht : Tch S w w') (hs : ∀ k, Own v k → ¬ S k) : W1 w' base v x := by
  obtain ⟨g, rfl, hb, h1⟩ := h
  exact ⟨g, rfl, hb.tch ht (hs g rfl), h1⟩
theorem W1.low {w : World} {base base' : Nat} {v : Value} {x : Int} (h : W1 w base v x) (hb : base' ≤ base) : W1 w base' v x := by
  obtain ⟨g, rfl, h1, h2⟩ := h
  exact ⟨g, rfl, h1, by omega⟩
theorem W1.own {w : World} {base : Nat} {v : Value} {x : Int} (h : W1 w base v x) {k : Nat} (hk : Own v k) : base ≤ k ∧ k < w.heap.size ∧ Blk w k 111 #[.int .u64 x] := by
  obtain ⟨g, rfl, h1, h2⟩ := h
  injection hk with hk
  subst hk
  exact ⟨h2, h1.lt, h1⟩
def NewW (x : Int) (w : World) (e : Ending) (w' : World) : Prop := ∃ v, e = .returned v ∧ W1 w' w.heap.size v x ∧ Tch Nil w w'
theorem mulAddWW_new (w : World) (y x : Int) (h0 : (x == 0) = false) : Calls Tryz.prog 140 #[.slice none 0 0, .slice none 0 0, .int .u64 y, .int .u64 x] w (NewW x w) := by
  go_enter Tryz.func140, Tryz.ntmps140
  go_wp2_with (go_at_call 160; refine (setWord_nil w x h0).mono ?_; rintro e w1 ⟨rfl, h1, h2, h3⟩)
  go_ret
  exact ⟨_, rfl, ⟨_, rfl, h1, Nat.le_refl _⟩, h2⟩
def TwoRel (w : World) (R : Nat) (s : ByteArray) (a : Addr) (z f cnt er pv iv ch di i dp : Value) (wr : World) : Prop :=
  (z = .slice none 0 0 ∧ f = .bool false ∧ cnt = .int .i64 0 ∧ er = .nilIface ∧ pv = .int .i32 46 ∧ iv = .bool false ∧ ch = .int .u8 50 ∧ di = .int .u64 0 ∧ i = .int .i64 0 ∧ dp = .int .i64 (-1) ∧ Tch (· = R) w wr ∧ Blk wr R 133 #[.string s, .int .i64 (s.size : Nat), .int .i64 (-1)]) ∨
  (z = .slice none 0 0 ∧ f = .bool false ∧ cnt = .int .i64 1 ∧ er = .iface 243 (.pointer (some a)) ∧ pv = .int .i32 48 ∧ iv = .bool false ∧ ch = .int .u8 0 ∧ di = .int .u64 2 ∧ i = .int .i64 1 ∧ dp = .int .i64 (-1) ∧ Tch (· = R) w wr ∧ Blk wr R 133 #[.string s, .int .i64 (s.size : Nat), .int .i64 (-1)])
def ScanTwo (w : World) (R : Nat) (s : ByteArray) (e : Ending) (w' : World) : Prop :=
  ∃ v, e = .returned (.tuple #[v, .int .i64 10, .int .i64 1, .nilIface]) ∧ W1 w' w.heap.size v 2 ∧ Tch (· = R) w w' ∧ Blk w' R 133 #[.string s, .int .i64 (s.size : Nat), .int .i64 (-1)]
set_option maxRecDepth 100000 in
set_option maxHeartbeats 1000000 in
theorem scan_two (w : World) (R : Nat) (s : ByteArray) (a : Addr) (hs : s.size = 1) (hd : ∀ h : 0 < s.size, ((s[0]'h).toNat : Int) = 50) (hR : Blk w R 133 #[.string s, .int .i64 (0 : Nat), .int .i64 (-1)]) (hb : 0 < R) (hE : w.cell? ⟨0, 0, none⟩ = some (.iface 243 (.pointer (some a)))) :
    Calls Tryz.prog 112 #[.slice none 0 0, .iface 108 (.pointer (some ⟨R, 0, none⟩)), .int .i64 10, .bool false] w (ScanTwo w R s) := by
  have hy := readByte_yes w R s 0 _ hR (by omega) (by unfold maxLen; omega)
  rw [hd, show 0 + 1 = s.size by omega] at hy
  have Hy := Lib.hid hy; clear hy hd
  have Hs := Lib.hid hs; clear hs
  have hE0 := Lib.hid hE; clear hE
  go_enter Tryz.func112, Tryz.ntmps112
  go_wp2_with (first
    | (go_at_call 318; refine Hy.out.mono ?_; rintro e w1 ⟨rfl, hb1, ht1, hz1⟩)
    | (go_at_call 100; refine (maxPow_ten _).mono ?_; rintro e w' ⟨rfl, rfl⟩))
  go_loopw [0, 3, 10, 11, 13, 14, 15, 20, 21, 22] (fun z f cnt er pv iv ch di i dp wr => TwoRel w R s a z f cnt er pv iv ch di i dp wr) (fun _ _ cnt _ _ _ _ _ _ _ _ => 1 - (intOf cnt).toNat)
  case atStart =>
    exact .inl ⟨rfl, rfl, rfl, rfl, rfl, rfl, rfl, rfl, rfl, rfl, ht1, hb1⟩
  case round =>
    rcases hrel with ⟨rfl, rfl, rfl, rfl, rfl, rfl, rfl, rfl, rfl, rfl, ht, hB⟩ | ⟨rfl, rfl, rfl, rfl, rfl, rfl, rfl, rfl, rfl, rfl, ht, hB⟩
    · have hE1 : wr.cell? ⟨0, 0, none⟩ = some (.iface 243 (.pointer (some a))) := ht.cell hE0.out (fun e => by simp at e; omega)
      have hz := readByte_eof wr R s _ _ hB hE1
      have Hz := Lib.hid hz; clear hz hE1 hB hb1 hR
      have Ht := Lib.hid ht; clear ht ht1
      go_wp2_with (go_at_call 318; refine Hz.out.mono ?_; rintro e w2 ⟨rfl, hb2, ht2, hz2⟩)
      go_roundw
      case rel => exact .inr ⟨rfl, rfl, rfl, rfl, rfl, rfl, rfl, rfl, rfl, rfl, Ht.out.then ht2, hb2⟩
      case measure => simp [intOf]
    · have hE1 : wr.cell? ⟨0, 0, none⟩ = some (.iface 243 (.pointer (some a))) := ht.cell hE0.out (fun e => by simp at e; omega)
      have heq := eof_eql a
      have Hb := Lib.hid hB; clear hB hb1 hR
      have Ht := Lib.hid ht; clear ht ht1
      go_wp2_with (first
          | (go_at_call 141; refine (pow_any _ _ _ ⟨by omega, by omega⟩ (by omega) (by omega)).mono ?_; rintro e w' ⟨⟨y, hy, rfl⟩, rfl⟩)
          | (go_at_call 140; refine (mulAddWW_new _ _ _ (by decide)).mono ?_; rintro e w3 ⟨z3, rfl, hz3, ht3⟩))
      go_returns
      exact ⟨z3, rfl, hz3.low Ht.out.size, Ht.out.then (ht3.nil _), Hb.out.tch ht3 (fun e => e)⟩
def IScanTwo (w : World) (R Z : Nat) (s : ByteArray) (r : Ending) (e : Ending) (w' : World) : Prop :=
  e = r ∧ (∃ v, Blk w' Z 69 #[.bool false, v] ∧ W1 w' w.heap.size v 2) ∧ Tch (fun k => k = R ∨ k = Z) w w' ∧ Blk w' R 133 #[.string s, .int .i64 (s.size : Nat), .int .i64 (-1)]
theorem two_end {w w1 w2 : World} {R Z : Nat} {s : ByteArray} {v : Value} {r : Ending} (hRZ : R ≠ Z) (hZl : Z < w.heap.size) (hs1 : w.heap.size ≤ w1.heap.size)
    (ht1 : Tch (· = R) w w1) (ht2 : Tch (· = R) w1 w2) (hZ : Blk w2 Z 69 #[.bool false, .slice none 0 0]) (hv : W1 w2 w1.heap.size v 2)
    (hR2 : Blk w2 R 133 #[.string s, .int .i64 (s.size : Nat), .int .i64 (-1)]) :
    IScanTwo w R Z s r r ((w2.setCell ⟨Z, 1, none⟩ v).setCell ⟨Z, 0, none⟩ (.bool false)) := by
  have ht : Tch (· = Z) w2 ((w2.setCell ⟨Z, 1, none⟩ v).setCell ⟨Z, 0, none⟩ (.bool false)) := (by repeat (first | exact Tch.refl _ _ | with_reducible assumption | refine Tch.drewN ?_ _ | refine Tch.drew ?_ | refine Tch.setCell ?_ (fun _ => by show _ = _; rfl) _ | refine Tch.alloc ?_ _))
  refine ⟨rfl, ⟨v, (hZ.set_ 1 v).set_ 0 (.bool false), (hv.low hs1).tch ht (fun k hk e => by have h := (hv.own hk).1; omega)⟩, ?_, (hR2.far (p := ⟨Z, 1, none⟩) hRZ _).far (p := ⟨Z, 0, none⟩) hRZ _⟩
  exact ((ht1.then ht2).mono (fun k e => .inl e)).trans ht (fun k _ e => .inr e)
set_option maxHeartbeats 1000000 in
theorem iscan_two (w : World) (R Z : Nat) (s : ByteArray) (a : Addr) (hR : Blk w R 133 #[.string s, .int .i64 0, .int .i64 (-1)]) (hZ : Blk w Z 69 #[.bool false, .slice none 0 0])
    (hR0 : 0 < R) (hs : s.size = 1) (hd : ∀ h : 0 < s.size, ((s[0]'h).toNat : Int) = 50) (hE : w.cell? ⟨0, 0, none⟩ = some (.iface 243 (.pointer (some a)))) :
    Calls Tryz.prog 90 #[.pointer (some ⟨Z, 0, none⟩), .iface 108 (.pointer (some ⟨R, 0, none⟩)), .int .i64 10] w (IScanTwo w R Z s (.returned (.tuple #[.pointer (some ⟨Z, 0, none⟩), .int .i64 10, .nilIface]))) := by
  have hsg := scanSign_digit w R s hR (by omega) (by unfold maxLen; omega) (by rw [hd]; rfl) (by rw [hd]; rfl)
  have Hsg := Lib.hid hsg; clear hsg
  have Hs := Lib.hid hs
  have Hd := Lib.hid hd
  clear hs hd
  have hR' := Lib.hid hR; clear hR
  have hZ' := Lib.hid hZ; clear hZ
  have hE' := Lib.hid hE; clear hE
  go_enter Tryz.func90, Tryz.ntmps90
  go_wp2_with fail
  refine Hsg.out.mono ?_
  rintro e w1 ⟨rfl, hR1, ht1, hz1⟩
  have hRZ : R ≠ Z := hR'.out.ne_ hZ'.out (by decide)
  have hRl := hR'.out.lt
  have hZl := hZ'.out.lt
  have hZ1 := hZ'.out.tch ht1 (fun e => hRZ e.symm)
  have hc1 := hZ1.cell 1
  simp only [List.getElem?_toArray, List.getElem?_cons_succ, List.getElem?_cons_zero] at hc1
  have hE1 := ht1.cell hE'.out (fun e => by simp at e; omega)
  have hsc := scan_two w1 R s a Hs.out Hd.out hR1 hR0 hE1
  have Hsc := Lib.hid hsc; clear hsc
  have hZ1' := Lib.hid hZ1; clear hZ1 hR1 hE1
  go_wp2_with fail
  refine Hsc.out.mono ?_
  rintro e w2 ⟨v, rfl, hv, ht2, hR2⟩
  have hZ2 := hZ1'.out.tch ht2 (fun e => hRZ e.symm)
  have hf1 := hZ2.frozen 1
  have hf0 := hZ2.frozen 0
  have hd1 := hZ2.cell 1
  have hd0 := hZ2.cell 0
  simp only [List.getElem?_toArray, List.getElem?_cons_succ, List.getElem?_cons_zero] at hd1 hd0
  have hZ2' := Lib.hid hZ2; clear hZ2
  have hvs : ∃ A, v = .slice A 1 1 := by obtain ⟨g, rfl, _⟩ := hv; exact ⟨_, rfl⟩
  obtain ⟨A, rfl⟩ := hvs
  have Hv := Lib.hid hv; clear hv
  go_wp2
  go_returns
  exact two_end hRZ hZl (by omega) ht1 ht2 hZ2'.out Hv.out hR2
def SFTwo (w : World) (R Z : Nat) (r : Ending) (e : Ending) (w' : World) : Prop :=
  e = r ∧ (∃ v, Blk w' Z 69 #[.bool false, v] ∧ W1 w' w.heap.size v 2) ∧ Tch (fun k => k = R ∨ k = Z) w w'
set_option maxHeartbeats 1000000 in
theorem setFromScanner_two (w : World) (R Z : Nat) (s : ByteArray) (a : Addr) (hR : Blk w R 133 #[.string s, .int .i64 0, .int .i64 (-1)]) (hZ : Blk w Z 69 #[.bool false, .slice none 0 0])
    (hR0 : 0 < R) (hZ0 : 0 < Z) (hs : s.size = 1) (hd : ∀ h : 0 < s.size, ((s[0]'h).toNat : Int) = 50) (hE : w.cell? ⟨0, 0, none⟩ = some (.iface 243 (.pointer (some a)))) :
    Calls Tryz.prog 75 #[.pointer (some ⟨Z, 0, none⟩), .iface 108 (.pointer (some ⟨R, 0, none⟩)), .int .i64 10] w (SFTwo w R Z (.returned (.tuple #[.pointer (some ⟨Z, 0, none⟩), .bool true]))) := by
  have hRl := hR.lt
  have hsc := iscan_two w R Z s a hR hZ hR0 hs hd hE
  have Hsc := Lib.hid hsc; clear hsc hs hd
  have hR' := Lib.hid hR; clear hR
  have hZ' := Lib.hid hZ; clear hZ
  have hE' := Lib.hid hE; clear hE
  go_enter Tryz.func75, Tryz.ntmps75
  go_wp2_with fail
  refine Hsc.out.mono ?_
  rintro e w1 ⟨rfl, hnat, ht1, hR1⟩
  have hE1 := ht1.cell hE'.out (fun e => by simp at e; omega)
  have hR1' := Lib.hid hR1; clear hR1
  have Hn := Lib.hid hnat; clear hnat
  go_wp2_with fail
  refine (readByte_eof w1 R s _ _ hR1'.out hE1).mono ?_
  rintro e w2 ⟨rfl, hR2, ht2, hz2⟩
  have hne := eof_neq a
  have hE2 := ht2.cell hE1 (fun e => by simp at e; omega)
  go_wp2
  go_returns
  have hRZ : R ≠ Z := hR'.out.ne_ hZ'.out (by decide)
  obtain ⟨v, h1, h2⟩ := Hn.out
  exact ⟨rfl, ⟨v, h1.tch ht2 (fun e => hRZ e.symm), h2.tch ht2 (fun k hk e => by have h := (h2.own hk).1; omega)⟩, ht1.trans ht2 (fun k _ e => .inl e)⟩
def GotTwo (w : World) (Z : Nat) (e : Ending) (w' : World) : Prop := e = .returned (.tuple #[.pointer (some ⟨Z, 0, none⟩), .bool true]) ∧
      (∃ v, Blk w' Z 69 #[.bool false, v] ∧ W1 w' w.heap.size v 2) ∧ Tch (· = Z) w w'
set_option maxHeartbeats 1000000 in
theorem setString_two (w : World) (Z : Nat) (s : ByteArray) (a : Addr) (hZ : Blk w Z 69 #[.bool false, .slice none 0 0])
    (hZ0 : 0 < Z) (hs : s.size = 1) (hd : ∀ h : 0 < s.size, ((s[0]'h).toNat : Int) = 50) (hE : w.cell? ⟨0, 0, none⟩ = some (.iface 243 (.pointer (some a)))) :
    Calls Tryz.prog 60 #[.pointer (some ⟨Z, 0, none⟩), .string s, .int .i64 10] w (GotTwo w Z) := by
  have hZl := hZ.lt
  have hR := Blk.new w 133 #[.string s, .int .i64 0, .int .i64 (-1)]
  have hZ1 := hZ.alloc (.cells #[.string s, .int .i64 0, .int .i64 (-1)] 133)
  have ht1 : Tch Nil w (w.alloc (.cells #[.string s, .int .i64 0, .int .i64 (-1)] 133)) := (Tch.refl _ _).alloc _
  have hE1 := ht1.cell hE (fun e => e)
  have hsc := setFromScanner_two _ w.heap.size Z s a hR hZ1 (by omega) hZ0 hs hd hE1
  have Hsc := Lib.hid hsc; clear hsc hs hd hE hR hZ hZ1 hE1
  have Ht1 := Lib.hid ht1; clear ht1
  go_enter Tryz.func60, Tryz.ntmps60
  go_wp2_with fail
  refine (newReader_any w s).mono ?_
  rintro e w1 ⟨rfl, rfl⟩
  go_wp2_with fail
  refine Hsc.out.mono ?_
  rintro e w2 ⟨rfl, hnat, ht2⟩
  have Hn := Lib.hid hnat; clear hnat
  go_wp2
  go_ret2
  obtain ⟨v, h1, h2⟩ := Hn.out
  exact ⟨rfl, ⟨v, h1, h2.low (by simp)⟩, (Ht1.out.nil _).trans ht2 (fun k hk e => by omega)⟩
end Go.Proofs.YtbblbolpcdkggaaGreatFmt
/-
  Walks: math/big's small sums: set, cmp, add, sub; Int.Add, Neg, NewInt: of numbers of one word.
-/
namespace Go.Proofs.YtbblbolpcdkggaaGreatFmt
open Go.RowKit
/-- A big.Int of one word. -/
def BI (w : World) (Z : Nat) (neg : Bool) (x : Int) : Prop := ∃ v, Blk w Z 69 #[.bool neg, v] ∧ W1 w 0 v x
theorem BI.tch {w w' : World} {Z : Nat} {neg : Bool} {x : Int} {S : Nat → Prop} (h : BI w Z neg x) (ht : Tch S w w') (hZ : ¬ S Z) (hs : ∀ k, Blk w k 111 #[.int .u64 x] → ¬ S k) : BI w' Z neg x := by
  obtain ⟨v, h1, h2⟩ := h
  exact ⟨v, h1.tch ht hZ, h2.tch ht (fun k hk => hs k (h2.own hk).2.2)⟩
theorem info69 : (Tryz.prog.info? 69).isSome = true := by kernel_rfl
theorem info111s : (Tryz.prog.info? 111).map (·.size) = some 1 := by kernel_rfl
set_option maxRecDepth 100000 in
set_option maxHeartbeats 1000000 in
theorem set_one (w : World) (g : Nat) (x : Int) (hb : Blk w g 111 #[.int .u64 x]) :
    Calls Tryz.prog 102 #[.slice none 0 0, .slice (some ⟨g, 0, none⟩) 1 1] w (NewW x w) := by
  have hb1 := (hb.alloc (.cells #[.int .u64 0] 111)).cell 0
  have hn := Blk.new w 111 #[.int .u64 0]
  have Hn := Lib.hid hn
  have Hb1 := Lib.hid hb1
  clear hb1 hb
  have hout : NewW x w (.returned (.slice (some ⟨w.heap.size, 0, none⟩) 1 1)) ((w.alloc (.cells #[.int .u64 0] 111)).setRow w.heap.size #[.int .u64 x]) :=
    ⟨_, rfl, ⟨_, rfl, setRow_heap _ _ _ _ _ _ hn, Nat.le_refl _⟩, Tch.of_whole (below_setRow (((Tch.refl Nil w).alloc _).whole) (Nat.le_refl _) _)⟩
  have Hout := Lib.hid hout
  clear hout hn
  go_enter Tryz.func102, Tryz.ntmps102
  go_wp2_with (first
    | (go_at_call 134; refine (make_one w).mono ?_; rintro e w1 ⟨rfl, rfl⟩)
    | (refine wpList_copy_own rfl _ _ _ _ rfl 111 Tryz.underlying67 info111s w.heap.size 0 1 1 ⟨g, 0, none⟩ 1 1 rfl rfl #[.int .u64 0] 111 Hn.out [.int .u64 x] rfl ?c1 ?c2 ?c3 ?_))
  case c1 =>
    intro j v hj
    rcases j with _ | j
    · cases hj; exact Hb1.out
    · simp at hj
  case c2 => simp
  case c3 => simp [Value.oneCell']
  go_wp2
  go_ret
  exact Hout.out
set_option maxRecDepth 100000 in
set_option maxHeartbeats 1000000 in
theorem nadd_set (w : World) (g : Nat) (x : Int) (hb : Blk w g 111 #[.int .u64 x]) :
    Calls Tryz.prog 114 #[.slice none 0 0, .slice (some ⟨g, 0, none⟩) 1 1, .slice none 0 0] w (NewW x w) := by
  have hc := set_one w g x hb
  have Hc := Lib.hid hc; clear hc hb
  go_enter Tryz.func114, Tryz.ntmps114
  go_wp2_with (go_at_call 102; refine Hc.out.mono ?_; rintro e w1 ⟨v, rfl, h1, h2⟩)
  go_ret
  exact ⟨_, rfl, h1, h2⟩
set_option maxRecDepth 100000 in
set_option maxHeartbeats 1000000 in
theorem nadd_turn (w : World) (g : Nat) (x : Int) (hb : Blk w g 111 #[.int .u64 x]) :
    Calls Tryz.prog 114 #[.slice none 0 0, .slice none 0 0, .slice (some ⟨g, 0, none⟩) 1 1] w (NewW x w) := by
  have hc := nadd_set w g x hb
  have Hc := Lib.hid hc; clear hc hb
  go_enter Tryz.func114, Tryz.ntmps114
  go_wp2_with (go_at_call 114; refine Hc.out.mono ?_; rintro e w1 ⟨v, rfl, h1, h2⟩)
  go_ret
  exact ⟨_, rfl, h1, h2⟩
set_option maxRecDepth 100000 in
set_option maxHeartbeats 1000000 in
theorem nsub_set (w : World) (g : Nat) (x : Int) (hb : Blk w g 111 #[.int .u64 x]) :
    Calls Tryz.prog 116 #[.slice none 0 0, .slice (some ⟨g, 0, none⟩) 1 1, .slice none 0 0] w (NewW x w) := by
  have hc := set_one w g x hb
  have Hc := Lib.hid hc; clear hc hb
  go_enter Tryz.func116, Tryz.ntmps116
  go_wp2_with (go_at_call 102; refine Hc.out.mono ?_; rintro e w1 ⟨v, rfl, h1, h2⟩)
  go_ret
  exact ⟨_, rfl, h1, h2⟩
theorem ncmp_less (w : World) (A : Option Addr) : Calls Tryz.prog 115 #[.slice none 0 0, .slice A 1 1] w fun e w' => e = .returned (.int .i64 (-1)) ∧ w' = w := by
  go_enter Tryz.func115, Tryz.ntmps115
  go_wp2
  go_ret
  exact ⟨rfl, rfl⟩
def AddOut (w : World) (T : Nat) (neg : Bool) (x : Int) (e : Ending) (w' : World) : Prop := e = .returned (.pointer (some ⟨T, 0, none⟩)) ∧ BI w' T neg x ∧ Tch (· = T) w w'
theorem add_end {w w1 : World} {T : Nat} {v : Value} {x : Int} {neg b0 : Bool} (hT : Blk w T 69 #[.bool b0, .slice none 0 0]) (hv : W1 w1 w.heap.size v x) (ht : Tch Nil w w1) :
    AddOut w T neg x (.returned (.pointer (some ⟨T, 0, none⟩))) ((w1.setCell ⟨T, 1, none⟩ v).setCell ⟨T, 0, none⟩ (.bool neg)) := by
  have hl := hT.lt
  have h2 : Tch (· = T) w1 ((w1.setCell ⟨T, 1, none⟩ v).setCell ⟨T, 0, none⟩ (.bool neg)) := (by repeat (first | exact Tch.refl _ _ | with_reducible assumption | refine Tch.drewN ?_ _ | refine Tch.drew ?_ | refine Tch.setCell ?_ (fun _ => by show _ = _; rfl) _ | refine Tch.alloc ?_ _))
  exact ⟨rfl, ⟨v, ((hT.tch ht (fun e => e)).set_ 1 v).set_ 0 (.bool neg), (hv.tch h2 (fun k hk e => by have := (hv.own hk).1; omega)).low (Nat.zero_le _)⟩, (ht.nil _).then h2⟩
set_option maxRecDepth 100000 in
set_option maxHeartbeats 1000000 in
theorem iadd_pos (w : World) (T Y : Nat) (x : Int) (hT : Blk w T 69 #[.bool false, .slice none 0 0]) (hY : BI w Y false x) :
    Calls Tryz.prog 92 #[.pointer (some ⟨T, 0, none⟩), .pointer (some ⟨T, 0, none⟩), .pointer (some ⟨Y, 0, none⟩)] w (AddOut w T false x) := by
  obtain ⟨v, hY, g, rfl, hg, _⟩ := hY
  have hc := fun n => nadd_turn (w.drewN n) g x hg
  have Hc := Lib.hid hc; clear hc hg
  have t0 := hT.cell 0
  have t1 := hT.cell 1
  have y0 := hY.cell 0
  have y1 := hY.cell 1
  simp only [List.getElem?_toArray, List.getElem?_cons_succ, List.getElem?_cons_zero] at t0 t1 y0 y1
  have HT := Lib.hid hT; clear hT hY
  go_enter Tryz.func92, Tryz.ntmps92
  go_wp2
  go_quiet (fail)
  go_wp2
  go_region_with (go_at_call 114; refine (Hc.out _).mono ?_; rintro e w1 ⟨v, rfl, ⟨g1, rfl, h1, h3⟩, h2⟩; have f1 := ((HT.out.drewN _).tch h2 (fun e => e)).frozen 1; have t1 := ((HT.out.drewN _).tch h2 (fun e => e)).cell 1; simp only [List.getElem?_toArray, List.getElem?_cons_succ, List.getElem?_cons_zero] at t1)
  all_goals
    have f0 := ((HT.out.drewN _).tch h2 (fun e => e)).frozen 0
    have t0 := ((HT.out.drewN _).tch h2 (fun e => e)).cell 0
    simp only [List.getElem?_toArray, List.getElem?_cons_zero] at t0
    have H1 := Lib.hid h1
    have H2 := Lib.hid h2
    clear h1 h2
    go_wp2
    go_returns
    exact add_end HT.out ⟨g1, rfl, H1.out, h3⟩ (((Tch.refl _ _).drewN _).then H2.out)
set_option maxRecDepth 100000 in
set_option maxHeartbeats 1000000 in
theorem iadd_neg (w : World) (T Y : Nat) (x : Int) (hT : Blk w T 69 #[.bool false, .slice none 0 0]) (hY : BI w Y true x) :
    Calls Tryz.prog 92 #[.pointer (some ⟨T, 0, none⟩), .pointer (some ⟨T, 0, none⟩), .pointer (some ⟨Y, 0, none⟩)] w (AddOut w T true x) := by
  obtain ⟨v, hY, g, rfl, hg, _⟩ := hY
  have hc := fun n => nsub_set (w.drewN n) g x hg
  have Hc := Lib.hid hc; clear hc hg
  have t0 := hT.cell 0
  have t1 := hT.cell 1
  have y0 := hY.cell 0
  have y1 := hY.cell 1
  simp only [List.getElem?_toArray, List.getElem?_cons_succ, List.getElem?_cons_zero] at t0 t1 y0 y1
  have HT := Lib.hid hT; clear hT hY
  go_enter Tryz.func92, Tryz.ntmps92
  go_wp2
  go_quiet (fail)
  go_wp2
  go_quiet ((go_at_call 115; refine (ncmp_less _ _).mono ?_; rintro e w' ⟨rfl, rfl⟩; exact ⟨rfl, _, rfl⟩))
  go_wp2
  go_region_with (go_at_call 116; refine (Hc.out _).mono ?_; rintro e w1 ⟨v, rfl, ⟨g1, rfl, h1, h3⟩, h2⟩; have f1 := ((HT.out.drewN _).tch h2 (fun e => e)).frozen 1; have t1 := ((HT.out.drewN _).tch h2 (fun e => e)).cell 1; simp only [List.getElem?_toArray, List.getElem?_cons_succ, List.getElem?_cons_zero] at t1)
  all_goals
    have f0 := ((HT.out.drewN _).tch h2 (fun e => e)).frozen 0
    have t0 := ((HT.out.drewN _).tch h2 (fun e => e)).cell 0
    simp only [List.getElem?_toArray, List.getElem?_cons_zero] at t0
    have H1 := Lib.hid h1
    have H2 := Lib.hid h2
    clear h1 h2
    go_wp2
    go_returns
    exact add_end HT.out ⟨g1, rfl, H1.out, h3⟩ (((Tch.refl _ _).drewN _).then H2.out)
set_option maxRecDepth 100000 in
set_option maxHeartbeats 1000000 in
theorem ineg_pos (w : World) (Y : Nat) (x : Int) (hY : BI w Y false x) :
    Calls Tryz.prog 91 #[.pointer (some ⟨Y, 0, none⟩), .pointer (some ⟨Y, 0, none⟩)] w (AddOut w Y true x) := by
  obtain ⟨v, hY, g, rfl, hg, _⟩ := hY
  have y0 := hY.cell 0
  have y1 := hY.cell 1
  have f0 := hY.frozen 0
  simp only [List.getElem?_toArray, List.getElem?_cons_succ, List.getElem?_cons_zero] at y0 y1
  have hYg : Y ≠ g := hY.ne_ hg (by decide)
  have hout : AddOut w Y true x (.returned (.pointer (some ⟨Y, 0, none⟩))) (w.setCell ⟨Y, 0, none⟩ (.bool true)) :=
    ⟨rfl, ⟨_, hY.set_ 0 (.bool true), g, rfl, hg.far (p := ⟨Y, 0, none⟩) (fun e => hYg e.symm) _, Nat.zero_le _⟩, (Tch.refl (· = Y) w).setCell (p := ⟨Y, 0, none⟩) (fun _ => rfl) _⟩
  have Hout := Lib.hid hout
  clear hout hY hg
  obtain ⟨j, hj⟩ := Option.isSome_iff_exists.1 info69
  have hne := fun w => Lib.run_neq_ptr_same (P := Tryz.prog) (w := w) ⟨Y, 0, none⟩ Tryz.underlying62 hj
  go_enter Tryz.func91, Tryz.ntmps91
  go_wp2
  go_returns
  exact Hout.out
def NewIntOut (w : World) (x : Int) (e : Ending) (w' : World) : Prop := ∃ Y, e = .returned (.pointer (some ⟨Y, 0, none⟩)) ∧ w.heap.size ≤ Y ∧ BI w' Y false x ∧ Tch Nil w w'
set_option maxRecDepth 100000 in
set_option maxHeartbeats 1000000 in
theorem newInt_one (w : World) : Calls Tryz.prog 62 #[.int .i64 1] w (NewIntOut w 1) := by
  go_enter Tryz.func62, Tryz.ntmps62
  go_wp2
  go_ret
  have h1 := (Blk.new w 111 #[.int .u64 1]).alloc (.cells #[.bool false, .slice (some ⟨w.heap.size, 0, none⟩) 1 1] 69)
  have h2 := Blk.new (w.alloc (.cells #[.int .u64 1] 111)) 69 #[.bool false, .slice (some ⟨w.heap.size, 0, none⟩) 1 1]
  have hs : (w.alloc (.cells #[.int .u64 1] 111)).heap.size = w.heap.size + 1 := by simp
  rw [hs] at h2
  exact ⟨_, rfl, Nat.le_succ _, ⟨_, h2, _, rfl, h1, Nat.zero_le _⟩, ((Tch.refl _ _).alloc _).alloc _⟩
end Go.Proofs.YtbblbolpcdkggaaGreatFmt
