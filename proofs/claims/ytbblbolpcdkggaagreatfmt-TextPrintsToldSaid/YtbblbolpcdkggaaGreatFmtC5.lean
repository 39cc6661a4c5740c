/-
  Walks: nat.itoa at the numbers 1 and 2 and at nought (printed by gen_rc.py).
-/
import Derived.Test.YtbblbolpcdkggaaGreatFmtC4
import Derived.Lib.SlBytesConst
import Derived.Lib.SmallJoins
import Derived.Test.YtbblbolpcdkggaaGreatFmtA7
import Derived.StillTailTactics
namespace Go.Proofs.YtbblbolpcdkggaaGreatFmt
open Go.RowKit
/-- The bytes that itoa leaves, in a block of its own. -/
def ItoaOut (n : Nat) (cs : Array Value) (w : World) (e : Ending) (w' : World) : Prop := ∃ S, e = .returned (.slice (some ⟨S, 0, none⟩) n n) ∧ (∀ j, w'.cell? ⟨S, j, none⟩ = cs[j]?) ∧ Tch Nil w w'
theorem cvt_one (w : World) : (convert 3 137 (.int .i64 1)).run Tryz.prog w = .ok (.float .f64 4607182418800017408) w := by kernel_rfl
theorem cvt_two (w : World) : (convert 3 137 (.int .i64 2)).run Tryz.prog w = .ok (.float .f64 4611686018427387904) w := by kernel_rfl
theorem cvt_ten (w : World) : (convert 3 137 (.int .i64 10)).run Tryz.prog w = .ok (.float .f64 4621819117588971520) w := by kernel_rfl
theorem quo_one (w : World) : (binOp .quo 137 (.float .f64 4607182418800017408) (.float .f64 4614662735865160561)).run Tryz.prog w = .ok (.float .f64 4599094494223104511) w := by kernel_rfl
theorem quo_two (w : World) : (binOp .quo 137 (.float .f64 4611686018427387904) (.float .f64 4614662735865160561)).run Tryz.prog w = .ok (.float .f64 4603598093850475007) w := by kernel_rfl
theorem int_one (w : World) : (convert 137 3 (.float .f64 4599094494223104511)).run Tryz.prog w = .ok (.int .i64 0) w := by kernel_rfl
theorem int_two (w : World) : (convert 137 3 (.float .f64 4603598093850475007)).run Tryz.prog w = .ok (.int .i64 0) w := by kernel_rfl
theorem info5m : (Tryz.prog.info? 5).map (fun i => (i.zero, i.size, i.bytes)) = some (some (.int .u8 0), 1, 1) := by kernel_rfl
theorem made5_1 : madeCells #[.int .u8 0] 1 = #[.int .u8 0] := Array.toList_inj.1 (by rw [toList_madeCells_one]; rfl)
theorem made5_2 : madeCells #[.int .u8 0] 2 = #[.int .u8 0, .int .u8 0] := Array.toList_inj.1 (by rw [toList_madeCells_one]; rfl)
theorem neg10 : IntKind.u64.wrap (-10) = 18446744073709551606 := by kernel_rfl
theorem and10 : bits .and .u64 10 18446744073709551606 = 2 := by kernel_rfl
theorem make5_1 (w : World) : (Instr.makeSlice 50 (.int .i64 1) (.int .i64 1)).run Tryz.prog w = .ok (.slice (some ⟨w.heap.size, 0, none⟩) 1 1) (w.alloc (.cells #[.int .u8 0] 5)) := by
  obtain ⟨i, hi, hz⟩ := Option.map_eq_some_iff.1 info5m
  simp only [Prod.mk.injEq] at hz
  obtain ⟨h1, h2, h3⟩ := hz
  have := run_make (P := Tryz.prog) w 50 5 i (.int .u8 0) Tryz.underlying50 hi h1 .i64 .i64 1 1 (by omega) (by omega) (by rw [h3]; omega) (by omega)
  rw [this, h2, ← made5_1]; rfl
theorem make5_2 (w : World) : (Instr.makeSlice 50 (.int .i64 2) (.int .i64 2)).run Tryz.prog w = .ok (.slice (some ⟨w.heap.size, 0, none⟩) 2 2) (w.alloc (.cells #[.int .u8 0, .int .u8 0] 5)) := by
  obtain ⟨i, hi, hz⟩ := Option.map_eq_some_iff.1 info5m
  simp only [Prod.mk.injEq] at hz
  obtain ⟨h1, h2, h3⟩ := hz
  have := run_make (P := Tryz.prog) w 50 5 i (.int .u8 0) Tryz.underlying50 hi h1 .i64 .i64 2 2 (by omega) (by omega) (by rw [h3]; omega) (by omega)
  rw [this, h2, ← made5_2]; rfl
set_option maxRecDepth 100000 in
theorem itoa_zero (w : World) (b : Bool) : Calls Tryz.prog 80 #[.slice none 0 0, .bool b, .int .i64 10] w (ItoaOut 1 #[.int .u8 48] w) := by
  have hcv := Lib.run_convert_bytes_const (P := Tryz.prog) w 50 5 #[.int .u8 48] 1 1 Tryz.underlying50 Tryz.underlying5
  go_enter_defers Tryz.func80, Tryz.ntmps80
  go_wp2
  exact ⟨_, results_tmp rfl _ _ _, w.heap.size, rfl, fun j => World.cell?_alloc_mark w _ _ _ j, (Tch.refl _ _).alloc _⟩

set_option maxRecDepth 100000 in
set_option maxHeartbeats 2000000 in
theorem itoa_one (w : World) (g : Nat) (hb : Blk w g 111 #[.int .u64 1]) (hL : w.cell? ⟨3, 0, none⟩ = some (.int .i64 8)) :
    Calls Tryz.prog 80 #[.slice (some ⟨g, 0, none⟩) 1 1, .bool false, .int .i64 10] w (ItoaOut 1 #[.int .u8 49] w) := by
  have hbl := bitLen_one w g hb
  have Hbl := Lib.hid hbl
  have h1 := cvt_one
  have h2 := cvt_ten
  have h3 := quo_one
  have h4 := int_one
  have h5 := make5_1
  have h6 := neg10
  have h7 := and10
  have ht0 : Tch Nil w ((w.alloc (.cells #[.int .u8 0] 5)).alloc (.cells #[.pointer none] 171)) := ((Tch.refl _ _).alloc _).alloc _
  have hL1 := ht0.cell hL (fun e => e)
  have hb1 := hb.tch ht0 (fun e => e)
  have hs := set_one _ g 1 hb1
  have Hs := Lib.hid hs
  have Hdv := Lib.hid (divisors_one _ (w.heap.size + 1) hL1 (.int .i64 19) (.int .u64 10000000000000000000))
  have hS0 := (Blk.new w 5 #[.int .u8 0]).alloc (.cells #[.pointer none] 171)
  have hK0 := Blk.new (w.alloc (.cells #[.int .u8 0] 5)) 171 #[.pointer none]
  have hsz : (w.alloc (.cells #[.int .u8 0] 5)).heap.size = w.heap.size + 1 := by simp
  rw [hsz] at hK0
  have HS0 := Lib.hid hS0
  have HK0 := Lib.hid hK0
  have Ht0 := Lib.hid ht0
  clear hs hL hL1 hb hb1 hbl hS0 hK0 ht0
  go_enter_defers Tryz.func80, Tryz.ntmps80
  go_wp2_with (first
    | (go_at_call 95; refine Hbl.out.mono ?_; rintro e w' ⟨rfl, hw⟩; obtain rfl := hw.symm)
    | (go_at_call 96; refine (log2_ten _).mono ?_; rintro e w' ⟨rfl, hw⟩; obtain rfl := hw.symm)
    | (go_at_call 98; refine (getStack_new _).mono ?_; rintro e w' ⟨rfl, rfl⟩)
    | (go_at_call 100; refine (maxPow_ten _).mono ?_; rintro e w' ⟨rfl, rfl⟩)
    | (go_at_call 101; refine Hdv.out.mono ?_; rintro e w' ⟨rfl, rfl⟩)
    | (go_at_call 102; refine Hs.out.mono ?_))
  rintro e w3 ⟨v, rfl, ⟨Q, rfl, hQ, hQ2⟩, ht3⟩
  have hS3 := HS0.out.tch ht3 (fun e => e)
  have hK3 := HK0.out.tch ht3 (fun e => e)
  have hc := conv_one w3 Q w.heap.size (w.heap.size + 1) hQ hS3
  have Hc := Lib.hid hc
  have HK3 := Lib.hid hK3
  have Ht3 := Lib.hid (Ht0.out.then ht3)
  have hKQ : w.heap.size + 1 ≠ Q := hK3.ne_ hQ (by decide)
  have hQw : w.heap.size ≤ Q := by simp at hQ2; omega
  clear hc hK3 hS3 hQ hQ2 ht3
  go_wp2_with (go_at_call 103; refine Hc.out.mono ?_)
  rintro e w4 ⟨rfl, hS4, ht4⟩
  have hK4 := HK3.out.tch ht4 (fun e => e.elim hKQ (by omega))
  have ht : Tch Nil w w4 := Ht3.out.trans ht4 (fun k hk e => by exfalso; rcases e with rfl | rfl <;> omega)
  have c0 := hS4.cell 0
  have c1 := hS4.cell 1
  have f0 := hS4.frozen 0
  simp only [List.getElem?_toArray, List.getElem?_cons_succ, List.getElem?_cons_zero] at c0 c1
  have HS4 := Lib.hid hS4
  have HK4 := Lib.hid hK4
  have Ht4 := Lib.hid ht
  clear ht hS4 hK4 ht4
  go_wp2
  go_rounds 2
  refine leaves_cons (f := 99) (args := #[.pointer (some ⟨w.heap.size + 1, 0, none⟩)]) (by simp) (by simp [go_sem]) ?_
  refine (free_deferred _ _ .returning (HK4.out.cell 0)).mono ?_
  rintro e u' w'' ⟨rfl, rfl, rfl⟩
  exact ⟨_, results_tmp rfl _ _ _, w.heap.size, rfl, HS4.out.cell, Ht4.out⟩

set_option maxRecDepth 100000 in
set_option maxHeartbeats 2000000 in
theorem itoa_two (w : World) (g : Nat) (hb : Blk w g 111 #[.int .u64 2]) (hL : w.cell? ⟨3, 0, none⟩ = some (.int .i64 8)) :
    Calls Tryz.prog 80 #[.slice (some ⟨g, 0, none⟩) 1 1, .bool true, .int .i64 10] w (ItoaOut 2 #[.int .u8 45, .int .u8 50] w) := by
  have hbl := bitLen_two w g hb
  have Hbl := Lib.hid hbl
  have h1 := cvt_two
  have h2 := cvt_ten
  have h3 := quo_two
  have h4 := int_two
  have h5 := make5_2
  have h6 := neg10
  have h7 := and10
  have ht0 : Tch Nil w ((w.alloc (.cells #[.int .u8 0, .int .u8 0] 5)).alloc (.cells #[.pointer none] 171)) := ((Tch.refl _ _).alloc _).alloc _
  have hL1 := ht0.cell hL (fun e => e)
  have hb1 := hb.tch ht0 (fun e => e)
  have hs := set_one _ g 2 hb1
  have Hs := Lib.hid hs
  have Hdv := Lib.hid (divisors_one _ (w.heap.size + 1) hL1 (.int .i64 19) (.int .u64 10000000000000000000))
  have hS0 := (Blk.new w 5 #[.int .u8 0, .int .u8 0]).alloc (.cells #[.pointer none] 171)
  have hK0 := Blk.new (w.alloc (.cells #[.int .u8 0, .int .u8 0] 5)) 171 #[.pointer none]
  have hsz : (w.alloc (.cells #[.int .u8 0, .int .u8 0] 5)).heap.size = w.heap.size + 1 := by simp
  rw [hsz] at hK0
  have HS0 := Lib.hid hS0
  have HK0 := Lib.hid hK0
  have Ht0 := Lib.hid ht0
  clear hs hL hL1 hb hb1 hbl hS0 hK0 ht0
  go_enter_defers Tryz.func80, Tryz.ntmps80
  go_wp2_with (first
    | (go_at_call 95; refine Hbl.out.mono ?_; rintro e w' ⟨rfl, hw⟩; obtain rfl := hw.symm)
    | (go_at_call 96; refine (log2_ten _).mono ?_; rintro e w' ⟨rfl, hw⟩; obtain rfl := hw.symm)
    | (go_at_call 98; refine (getStack_new _).mono ?_; rintro e w' ⟨rfl, rfl⟩)
    | (go_at_call 100; refine (maxPow_ten _).mono ?_; rintro e w' ⟨rfl, rfl⟩)
    | (go_at_call 101; refine Hdv.out.mono ?_; rintro e w' ⟨rfl, rfl⟩)
    | (go_at_call 102; refine Hs.out.mono ?_))
  rintro e w3 ⟨v, rfl, ⟨Q, rfl, hQ, hQ2⟩, ht3⟩
  have hS3 := HS0.out.tch ht3 (fun e => e)
  have hK3 := HK0.out.tch ht3 (fun e => e)
  have hc := conv_two w3 Q w.heap.size (w.heap.size + 1) hQ hS3
  have Hc := Lib.hid hc
  have HK3 := Lib.hid hK3
  have Ht3 := Lib.hid (Ht0.out.then ht3)
  have hKQ : w.heap.size + 1 ≠ Q := hK3.ne_ hQ (by decide)
  have hQw : w.heap.size ≤ Q := by simp at hQ2; omega
  clear hc hK3 hS3 hQ hQ2 ht3
  go_wp2_with (go_at_call 103; refine Hc.out.mono ?_)
  rintro e w4 ⟨rfl, hS4, ht4⟩
  have hK4 := HK3.out.tch ht4 (fun e => e.elim hKQ (by omega))
  have ht : Tch Nil w w4 := Ht3.out.trans ht4 (fun k hk e => by exfalso; rcases e with rfl | rfl <;> omega)
  have c0 := hS4.cell 0
  have c1 := hS4.cell 1
  have f0 := hS4.frozen 0
  simp only [List.getElem?_toArray, List.getElem?_cons_succ, List.getElem?_cons_zero] at c0 c1
  have HS4 := Lib.hid hS4
  have HK4 := Lib.hid hK4
  have Ht4 := Lib.hid ht
  clear ht hS4 hK4 ht4
  go_wp2
  go_rounds 2
  refine leaves_cons (f := 99) (args := #[.pointer (some ⟨w.heap.size + 1, 0, none⟩)]) (by simp) (by simp [go_sem]) ?_
  have hne : w.heap.size + 1 ≠ w.heap.size := by omega
  refine (free_deferred _ _ .returning ((HK4.out.far (p := ⟨w.heap.size, 0, none⟩) hne (.int .u8 45)).cell 0)).mono ?_
  rintro e u' w'' ⟨rfl, rfl, rfl⟩
  exact ⟨_, results_tmp rfl _ _ _, w.heap.size, rfl, (HS4.out.set_ 0 (.int .u8 45)).cell, Ht4.out.setCell (p := ⟨w.heap.size, 0, none⟩) (fun h => by simp at h) _⟩
end Go.Proofs.YtbblbolpcdkggaaGreatFmt
/-
  Walks: (*math/big.Int).Text, String, Sign at -2, 0 and 1; exact.Trim, exact.Text of the machine's terms.
-/
namespace Go.Proofs.YtbblbolpcdkggaaGreatFmt
open Go.RowKit
def StrGot (s : ByteArray) (w : World) (e : Ending) (w' : World) : Prop := e = .returned (.string s) ∧ Tch Nil w w'
theorem string_of_bytes (w : World) (S : Nat) (cs : Array Value) (n c : Nat) (l : List UInt8) (hn : l.length = n) (h : ∀ j, w.cell? ⟨S, j, none⟩ = cs[j]?) (hcs : ∀ j (hj : j < l.length), cs[j]? = some (.int .u8 (l[j].toNat : Int))) :
    (convert 50 9 (.slice (some ⟨S, 0, none⟩) n c)).run Tryz.prog w = .ok (.string ⟨l.toArray⟩) w := by
  subst hn
  exact run_convert_bytes_back w 50 9 5 ⟨S, 0, none⟩ c l Tryz.underlying50 Tryz.underlying5 Tryz.underlying9 (fun j hj => by rw [addr_add, Nat.zero_add, h]; exact hcs j hj)
set_option maxRecDepth 100000 in
set_option maxHeartbeats 1000000 in
theorem text_two (w : World) (Z : Nat) (h : BI w Z true 2) (hL : w.cell? ⟨3, 0, none⟩ = some (.int .i64 8)) :
    Calls Tryz.prog 44 #[.pointer (some ⟨Z, 0, none⟩)] w (StrGot ⟨#[45, 50]⟩ w) := by
  obtain ⟨v, hZ, g, rfl, hg, _⟩ := h
  have c0 := hZ.cell 0
  have c1 := hZ.cell 1
  simp only [List.getElem?_toArray, List.getElem?_cons_succ, List.getElem?_cons_zero] at c0 c1
  have hc := itoa_two w.drew g hg hL
  have Hc := Lib.hid hc
  clear hc hg hZ hL
  go_enter Tryz.func44, Tryz.ntmps44
  go_wp2
  go_still_tail 9, (by kernel_rfl)
  change wpList _ _ _ _ _ w.drew
  go_wp2_with (go_at_call 80; refine Hc.out.mono ?_)
  rintro e w1 ⟨S, rfl, hS, ht⟩
  have hcv := string_of_bytes w1 S _ 2 2 [45, 50] rfl hS (fun j hj => by
    rcases j with _ | _ | j
    · rfl
    · rfl
    · exfalso; have h2 : j + 1 + 1 < 2 := hj; omega)
  have Ht := Lib.hid ht
  clear ht hS
  go_wp2
  go_ret
  exact ⟨rfl, ((Tch.refl _ _).drew).then Ht.out⟩
set_option maxRecDepth 100000 in
set_option maxHeartbeats 1000000 in
theorem text_one (w : World) (Z : Nat) (h : BI w Z false 1) (hL : w.cell? ⟨3, 0, none⟩ = some (.int .i64 8)) :
    Calls Tryz.prog 44 #[.pointer (some ⟨Z, 0, none⟩)] w (StrGot ⟨#[49]⟩ w) := by
  obtain ⟨v, hZ, g, rfl, hg, _⟩ := h
  have c0 := hZ.cell 0
  have c1 := hZ.cell 1
  simp only [List.getElem?_toArray, List.getElem?_cons_succ, List.getElem?_cons_zero] at c0 c1
  have hc := itoa_one w.drew g hg hL
  have Hc := Lib.hid hc
  clear hc hg hZ hL
  go_enter Tryz.func44, Tryz.ntmps44
  go_wp2
  go_still_tail 9, (by kernel_rfl)
  change wpList _ _ _ _ _ w.drew
  go_wp2_with (go_at_call 80; refine Hc.out.mono ?_)
  rintro e w1 ⟨S, rfl, hS, ht⟩
  have hcv := string_of_bytes w1 S _ 1 1 [49] rfl hS (fun j hj => by
    rcases j with _ | j
    · rfl
    · exfalso; have h2 : j + 1 < 1 := hj; omega)
  have Ht := Lib.hid ht
  clear ht hS
  go_wp2
  go_ret
  exact ⟨rfl, ((Tch.refl _ _).drew).then Ht.out⟩
set_option maxRecDepth 100000 in
set_option maxHeartbeats 1000000 in
theorem text_zero (w : World) (Z : Nat) (hZ : Blk w Z 69 #[.bool false, .slice none 0 0]) :
    Calls Tryz.prog 44 #[.pointer (some ⟨Z, 0, none⟩)] w (StrGot ⟨#[48]⟩ w) := by
  have c0 := hZ.cell 0
  have c1 := hZ.cell 1
  simp only [List.getElem?_toArray, List.getElem?_cons_succ, List.getElem?_cons_zero] at c0 c1
  have hc := itoa_zero w.drew false
  have Hc := Lib.hid hc
  clear hc hZ
  go_enter Tryz.func44, Tryz.ntmps44
  go_wp2
  go_still_tail 9, (by kernel_rfl)
  change wpList _ _ _ _ _ w.drew
  go_wp2_with (go_at_call 80; refine Hc.out.mono ?_)
  rintro e w1 ⟨S, rfl, hS, ht⟩
  have hcv := string_of_bytes w1 S _ 1 1 [48] rfl hS (fun j hj => by
    rcases j with _ | j
    · rfl
    · exfalso; have h2 : j + 1 < 1 := hj; omega)
  have Ht := Lib.hid ht
  clear ht hS
  go_wp2
  go_ret
  exact ⟨rfl, ((Tch.refl _ _).drew).then Ht.out⟩
end Go.Proofs.YtbblbolpcdkggaaGreatFmt
/-
  Walks: (*math/big.Int).Sign, exact.Trim, exact.Text over the machine's terms.
-/
namespace Go.Proofs.YtbblbolpcdkggaaGreatFmt
open Go.RowKit
theorem sign_zero (w : World) (T : Nat) (h : Blk w T 69 #[.bool false, .slice none 0 0]) : Calls Tryz.prog 64 #[.pointer (some ⟨T, 0, none⟩)] w fun e w' => e = .returned (.int .i64 0) ∧ w' = w := by
  have c1 := h.cell 1
  simp only [List.getElem?_toArray, List.getElem?_cons_succ, List.getElem?_cons_zero] at c1
  clear h
  go_enter Tryz.func64, Tryz.ntmps64
  go_wp2
  go_ret
  exact ⟨rfl, rfl⟩
theorem sign_one (w : World) (T : Nat) (x : Int) (h : BI w T false x) : Calls Tryz.prog 64 #[.pointer (some ⟨T, 0, none⟩)] w fun e w' => e = .returned (.int .i64 1) ∧ w' = w := by
  obtain ⟨v, h, g, rfl, hg, _⟩ := h
  have c0 := h.cell 0
  have c1 := h.cell 1
  simp only [List.getElem?_toArray, List.getElem?_cons_succ, List.getElem?_cons_zero] at c0 c1
  clear h hg
  go_enter Tryz.func64, Tryz.ntmps64
  go_wp2
  go_ret
  exact ⟨rfl, rfl⟩
/-- The machine's terms: -2, 0, 1 and noughts. -/
structure Terms (w : World) (M Z : Nat) : Prop where
  ptr : ∀ k, k < 65 → w.cell? ⟨M, 4 + k, none⟩ = some (.pointer (some ⟨Z + k, 0, none⟩))
  t0 : BI w Z true 2
  t1 : Blk w (Z + 1) 69 #[.bool false, .slice none 0 0]
  t2 : BI w (Z + 2) false 1
  tz : ∀ k, 3 ≤ k → k < 65 → Blk w (Z + k) 69 #[.bool false, .slice none 0 0]
theorem Terms.tch {w w' : World} {M Z : Nat} (h : Terms w M Z) (ht : Tch Nil w w') : Terms w' M Z :=
  ⟨fun k hk => ht.cell (h.ptr k hk) (fun e => e), h.t0.tch ht (fun e => e) (fun _ _ e => e), h.t1.tch ht (fun e => e), h.t2.tch ht (fun e => e) (fun _ _ e => e), fun k h3 hk => (h.tz k h3 hk).tch ht (fun e => e)⟩
set_option maxRecDepth 100000 in
set_option maxHeartbeats 1000000 in
theorem trim_three (w : World) (M Z : Nat) (h : Terms w M Z) :
    Calls Tryz.prog 43 #[.slice (some ⟨M, 4, none⟩) 65 65] w fun e w' => e = .returned (.slice (some ⟨M, 4, none⟩) 3 65) ∧ w' = w := by
  have H := Lib.hid h
  clear h
  go_enter Tryz.func43, Tryz.ntmps43
  go_wp2
  go_loopw [0] (fun p wr => ∃ m : Nat, 2 ≤ m ∧ m ≤ 64 ∧ p = .slice (some ⟨M, 4, none⟩) (m + 1) 65 ∧ wr = w) (fun p _ => match p with | .slice _ n _ => n | _ => 0)
  case atStart => exact ⟨64, by omega, by omega, rfl, rfl⟩
  case round =>
    obtain ⟨m, h2, h64, rfl, rfl⟩ := hrel
    have hp := H.out.ptr m (by omega)
    by_cases hm : m = 2
    · subst hm
      have ht2 := H.out.t2
      have Ht2 := Lib.hid ht2
      clear ht2
      go_wp2_with (go_at_call 64; refine (sign_one _ _ _ Ht2.out).mono ?_; rintro e w' ⟨rfl, hw⟩; obtain rfl := hw.symm)
      go_ret
      exact ⟨rfl, rfl⟩
    · obtain ⟨k, rfl⟩ : ∃ k, m = k + 1 := ⟨m - 1, by omega⟩
      have htz := H.out.tz (k + 1) (by omega) (by omega)
      have Htz := Lib.hid htz
      have hk2 : 2 ≤ k := by omega
      clear htz hm
      go_wp2_with (go_at_call 64; refine (sign_zero _ _ Htz.out).mono ?_; rintro e w' ⟨rfl, hw⟩; obtain rfl := hw.symm)
      go_roundw
      case rel => exact ⟨k, hk2, by omega, rfl, trivial⟩
      case measure => simp
def tx : List ByteArray := [⟨#[45, 50]⟩, ⟨#[48]⟩, ⟨#[49]⟩]
theorem tx_len : tx.length = 3 := rfl
theorem string_k (w : World) (M Z n : Nat) (h : Terms w M Z) (hL : w.cell? ⟨3, 0, none⟩ = some (.int .i64 8)) (hn : n < tx.length) :
    Calls Tryz.prog 44 #[.pointer (some ⟨Z + n, 0, none⟩)] w (StrGot tx[n] w) := by
  match n, hn with
  | 0, _ => exact text_two w Z h.t0 hL
  | 1, _ => exact text_zero w (Z + 1) h.t1
  | 2, _ => exact text_one w (Z + 2) h.t2 hL
theorem strs_take (n : Nat) (hn : n < tx.length) : strs (tx.take (n + 1)) = strs (tx.take n) ++ [.string tx[n]] := by
  unfold strs
  rw [List.take_succ_eq_append_getElem hn, List.map_append]; rfl
/-- The texts, in a block of the call's own. -/
def TextOut (w : World) (e : Ending) (w' : World) : Prop := ∃ g cap, e = .returned (.slice (some ⟨g, 0, none⟩) 3 cap) ∧ 3 ≤ cap ∧ StrsAt w' g 0 tx ∧ Tch Nil w w'
def TextRel (w : World) (out i : Value) (wr : World) : Prop := ∃ n : Nat, n ≤ 3 ∧ i = .int .i64 n ∧ wr.ownsRow w.heap.size 9 1 out n (strs (tx.take n)) ∧ Tch Nil w wr
set_option maxRecDepth 100000 in
set_option maxHeartbeats 2000000 in
theorem text_three (w : World) (M Z : Nat) (h : Terms w M Z) (hL : w.cell? ⟨3, 0, none⟩ = some (.int .i64 8)) :
    Calls Tryz.prog 29 #[.slice (some ⟨M, 4, none⟩) 65 65] w (TextOut w) := by
  have info9 : (Tryz.prog.info? 9).map (fun i => (i.zero, i.size, i.bytes)) = some (some (.string ⟨#[]⟩), 1, 16) := by kernel_rfl
  obtain ⟨i0, hi, hz0, hz1, hz2⟩ := info_parts info9
  clear info9
  have Ht := Lib.hid (trim_three w M Z h)
  have H := Lib.hid h
  have HL := Lib.hid hL
  clear h hL
  go_enter Tryz.func29, Tryz.ntmps29
  go_wp2_with (first
    | (go_at_call 43; refine Ht.out.mono ?_; rintro e w' ⟨rfl, hw⟩; obtain rfl := hw.symm)
    | (refine wpList_make_own _ rfl _ _ 22 rfl w.heap.size 9 i0 (.string ⟨#[]⟩) 1 Tryz.underlying22 hi hz0 hz1 .i64 .i64 _ 3 rfl rfl rfl ?c1 ?c2 ?c3 ?_))
  case c1 => rw [hz2]; omega
  case c2 => unfold maxLen; omega
  case c3 => exact Nat.le_refl _
  intro w1 hown1 hgrow1
  have ht1 := Tch.grown_none hgrow1
  go_wp2
  go_loopw [3, 13] (fun out i wr => TextRel w out i wr) (fun _ i _ => 3 - (intOf i).toNat)
  case atStart => exact ⟨0, by omega, rfl, hown1, ht1⟩
  case round =>
    obtain ⟨n, hn, rfl, hown, ht⟩ := hrel
    have Hown := Lib.hid hown; clear hown hown1 hgrow1 ht1
    have Ht := Lib.hid ht; clear ht
    by_cases hlt : n < 3
    · have hT := H.out.tch Ht.out
      have hp := hT.ptr n (by omega)
      have hk := string_k wr M Z n hT (Ht.out.cell HL.out (fun e => e)) hlt
      have Hk := Lib.hid hk
      have hst := strs_take n hlt
      have Hst := Lib.hid hst
      clear hk hT hst
      generalize tx[n] = s at *
      go_wp2_with (go_at_call 44; refine Hk.out.mono ?_)
      rintro e w2 ⟨rfl, ht2⟩
      have Ht2 := Lib.hid ht2
      have Hown2 := Lib.hid (ownsRow_tch Hown.out ht2)
      clear ht2
      go_wp2_with (at_builtin; refine wpList_append_own _ rfl _ _ 22 rfl w.heap.size 9 i0 (.string ⟨#[]⟩) 1 16 Tryz.underlying22 hi hz0 hz1 hz2 rfl (by decide) _ n (strs (tx.take n)) rfl (Hown2.out.alloc _) ⟨w2.heap.size, 0, none⟩ 1 1 [.string s] rfl rfl ?c1 ?c2 ?c3 ?c4 ?c5 ?_)
      case c1 => exact cell_one_new w2 (.string s) 9
      case c2 => intro u hu; simp at hu; subst hu; rfl
      case c3 => unfold maxLen; omega
      case c4 => omega
      case c5 => have z1 := Ht.out.size; have z2 := Ht2.out.size; simp; omega
      intro v' w4 hown4 hgrow4 _
      have htt : Tch Nil w w4 := ((Ht.out.then Ht2.out).alloc _).trans (Tch.grown hgrow4) (fun k hk e => by have h := (Hown2.out.lt k e.symm).1; omega)
      have Hown4 := Lib.hid hown4
      clear hgrow4 hown4
      go_wp2
      go_roundw
      case rel => exact ⟨n + 1, by omega, by go_num, by rw [Hst.out]; exact Hown4.out, htt⟩
      case measure => simp [intOf]; omega
    · have h3 : n = 3 := by omega
      subst h3
      rcases Hown.out.2 with ⟨_, h⟩ | ⟨g, cap, cur, rfl, h1, h2, h3, h4, h5, h6⟩
      · omega
      · have hout : TextOut w (.returned (.slice (some ⟨g, 0, none⟩) 3 cap)) wr := by
          refine ⟨g, cap, rfl, h3, fun j hj => ?_, Ht.out⟩
          have hc : wr.cell? ⟨g, 0 + j, none⟩ = cur[0 + j]? := Blk.cell h2 (0 + j)
          rw [hc, Nat.zero_add, ← Array.getElem?_toList]
          have hl : j < 3 := hj
          rw [← List.getElem?_take_of_lt (j := 3 * 1) (by omega), h6]
          unfold strs
          rw [List.take_of_length_le (by decide), List.getElem?_map, List.getElem?_eq_getElem hj]; rfl
        have Hout := Lib.hid hout
        clear hout h1 h2 h3 h4 h5 h6
        go_wp2
        go_ret
        exact Hout.out
end Go.Proofs.YtbblbolpcdkggaaGreatFmt
