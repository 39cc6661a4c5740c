/-
  Walks: the pieces of nat.itoa at a number of one word: bitLen, Log2(10), divW, divisors, getStack.
-/
import Derived.Test.YtbblbolpcdkggaaGreatFmtC2
import Derived.Defers
namespace Go.Proofs.YtbblbolpcdkggaaGreatFmt
open Go.RowKit
theorem len_one (w : World) : Calls Tryz.prog 122 #[.int .u64 1] w fun e w' => e = .returned (.int .i64 1) ∧ w' = w := by
  have h : Lib.bitLen (1 : Int).toNat = 1 := by kernel_rfl
  refine (Tryz.bits_Len 1 w (by decide) (by decide)).mono ?_
  rintro e w' ⟨rfl, rfl⟩
  rw [h]
  exact ⟨rfl, rfl⟩
theorem len_three (w : World) : Calls Tryz.prog 122 #[.int .u64 3] w fun e w' => e = .returned (.int .i64 2) ∧ w' = w := by
  have h : Lib.bitLen (3 : Int).toNat = 2 := by kernel_rfl
  refine (Tryz.bits_Len 3 w (by decide) (by decide)).mono ?_
  rintro e w' ⟨rfl, rfl⟩
  rw [h]
  exact ⟨rfl, rfl⟩
theorem bitLen_one (w : World) (g : Nat) (hb : Blk w g 111 #[.int .u64 1]) : Calls Tryz.prog 95 #[.slice (some ⟨g, 0, none⟩) 1 1] w fun e w' => e = .returned (.int .i64 1) ∧ w' = w := by
  have c0 := hb.cell 0
  simp only [List.getElem?_toArray, List.getElem?_cons_zero] at c0
  have o1 : bits .or .u64 1 0 = 1 := by kernel_rfl
  go_enter Tryz.func95, Tryz.ntmps95
  go_wp2_with (go_at_call 122; refine (len_one _).mono ?_; rintro e w' ⟨rfl, rfl⟩)
  go_ret
  exact ⟨rfl, rfl⟩
theorem bitLen_two (w : World) (g : Nat) (hb : Blk w g 111 #[.int .u64 2]) : Calls Tryz.prog 95 #[.slice (some ⟨g, 0, none⟩) 1 1] w fun e w' => e = .returned (.int .i64 2) ∧ w' = w := by
  have c0 := hb.cell 0
  simp only [List.getElem?_toArray, List.getElem?_cons_zero] at c0
  have o2 : bits .or .u64 2 1 = 3 := by kernel_rfl
  have o3 : bits .or .u64 3 0 = 3 := by kernel_rfl
  go_enter Tryz.func95, Tryz.ntmps95
  go_wp2_with (go_at_call 122; refine (len_three _).mono ?_; rintro e w' ⟨rfl, rfl⟩)
  go_ret
  exact ⟨rfl, rfl⟩
theorem ext226 (w : World) : (callFunc 226 #[.float .f64 4621819117588971520]).run Tryz.prog w = .ok (.value (.int .u64 4621819117588971520)) w := by kernel_rfl
theorem ext227a (w : World) : (callFunc 227 #[.int .u64 4621819117588971520]).run Tryz.prog w = .ok (.value (.float .f64 4621819117588971520)) w := by kernel_rfl
theorem ext227 (w : World) : (callFunc 227 #[.int .u64 4603804719079489536]).run Tryz.prog w = .ok (.value (.float .f64 4603804719079489536)) w := by kernel_rfl
theorem ext184 (w : World) : (callFunc 184 #[.float .f64 4603804719079489536]).run Tryz.prog w = .ok (.value (.float .f64 13825510489450817230)) w := by kernel_rfl
theorem an1 : bits .andNot .u64 4621819117588971520 9223372036854775808 = 4621819117588971520 := by kernel_rfl
theorem an2 : bits .andNot .u64 4621819117588971520 9218868437227405312 = 1125899906842624 := by kernel_rfl
theorem or1 : bits .or .u64 1125899906842624 4602678819172646912 = 4603804719079489536 := by kernel_rfl
theorem and1 : bits .and .u64 1026 2047 = 1026 := by kernel_rfl
theorem mul1 (w : World) : (binOp .mul 137 (.float .f64 13825510489450817230) (.float .f64 4609176140021203710)).run Tryz.prog w = .ok (.float .f64 13827654785158443579) w := by kernel_rfl
theorem cv4 (w : World) : (convert 3 137 (.int .i64 4)).run Tryz.prog w = .ok (.float .f64 4616189618054758400) w := by kernel_rfl
theorem add1 (w : World) : (binOp .add 137 (.float .f64 13827654785158443579) (.float .f64 4616189618054758400)).run Tryz.prog w = .ok (.float .f64 4614662735865160561) w := by kernel_rfl
set_option maxRecDepth 100000 in
theorem log2_ten (w : World) : Calls Tryz.prog 96 #[.float .f64 4621819117588971520] w fun e w' => e = .returned (.float .f64 4614662735865160561) ∧ w' = w := by
  have h1 := ext226
  have h2 := ext227
  have h3 := ext184
  have h4 := ext227a
  have h5 := an1
  have h6 := an2
  have h7 := or1
  have h8 := and1
  have h9 := mul1
  have h10 := cv4
  have h11 := add1
  go_enter Tryz.func96, Tryz.ntmps96
  go_wp2
  go_ret
  exact ⟨rfl, rfl⟩
theorem getStack_new (w : World) : Calls Tryz.prog 98 #[] w fun e w' => e = .returned (.pointer (some ⟨w.heap.size, 0, none⟩)) ∧ w' = w.alloc (.cells #[.pointer none] 171) := by
  go_enter Tryz.func98, Tryz.ntmps98
  go_wp2
  go_ret
  exact ⟨rfl, rfl⟩
theorem free_new (w : World) (K : Nat) (hK : Blk w K 171 #[.pointer none]) : Calls Tryz.prog 99 #[.pointer (some ⟨K, 0, none⟩)] w fun e w' => e = .returned (.tuple #[]) ∧ w' = w := by
  have c0 := hK.cell 0
  simp only [List.getElem?_toArray, List.getElem?_cons_zero] at c0
  go_enter Tryz.func99, Tryz.ntmps99
  go_wp2
  go_returns
  exact ⟨rfl, rfl⟩
set_option maxRecDepth 100000 in
theorem divisors_one (w : World) (K : Nat) (hL : w.cell? ⟨3, 0, none⟩ = some (.int .i64 8)) (nd bb : Value) : Calls Tryz.prog 101 #[.pointer (some ⟨K, 0, none⟩), .int .i64 1, .int .u64 10, nd, bb] w fun e w' => e = .returned (.slice none 0 0) ∧ w' = w := by
  go_enter Tryz.func101, Tryz.ntmps101
  go_wp2
  go_ret
  exact ⟨rfl, rfl⟩
end Go.Proofs.YtbblbolpcdkggaaGreatFmt
/-
  Walks: nat.divW, convertWords, itoa at the numbers 1 and 2 (printed by gen_rb.py).
-/
namespace Go.Proofs.YtbblbolpcdkggaaGreatFmt
open Go.RowKit
theorem free_deferred (w : World) (K : Nat) (u : FrameMode) (c0 : w.cell? ⟨K, 0, none⟩ = some (.pointer none)) :
    CallsD Tryz.prog 99 #[.pointer (some ⟨K, 0, none⟩)] u w fun e u' w' => u' = u ∧ (e = .returned (.tuple #[]) ∧ w' = w) := by
  go_enter_d Tryz.func99, Tryz.ntmps99
  go_wp2
  go_end0
  exact ⟨rfl, rfl⟩
set_option maxRecDepth 100000 in
theorem norm_zero (w : World) (Q : Nat) (hb : Blk w Q 111 #[.int .u64 0]) : Calls Tryz.prog 143 #[.slice (some ⟨Q, 0, none⟩) 1 1] w fun e w' => e = .returned (.slice (some ⟨Q, 0, none⟩) 0 1) ∧ w' = w := by
  have c0 := hb.cell 0
  simp only [List.getElem?_toArray, List.getElem?_cons_zero] at c0
  go_enter Tryz.func143, Tryz.ntmps143
  go_wp2
  go_rounds 2
  go_ret
  exact ⟨rfl, rfl⟩
theorem fits_one (w : World) (Q : Nat) : Calls Tryz.prog 134 #[.slice (some ⟨Q, 0, none⟩) 1 1, .int .i64 1] w fun e w' => e = .returned (.slice (some ⟨Q, 0, none⟩) 1 1) ∧ w' = w := by
  go_enter Tryz.func134, Tryz.ntmps134
  go_wp2
  go_ret
  exact ⟨rfl, rfl⟩

set_option maxRecDepth 100000 in
theorem bdiv_one (w : World) : Calls Tryz.prog 219 #[.int .u64 0, .int .u64 1, .int .u64 10000000000000000000] w fun e w' => e = .returned (.tuple #[.int .u64 0, .int .u64 1]) ∧ ∃ n, w' = w.drewN n := by
  go_enter Tryz.func219, Tryz.ntmps219
  go_wp2
  go_quiet (fail)
  go_wp2
  go_returns
  exact ⟨rfl, _, rfl⟩
set_option maxRecDepth 100000 in
theorem divWVW_one (w : World) (Q : Nat) (hb : Blk w Q 111 #[.int .u64 1]) : Calls Tryz.prog 169 #[.slice (some ⟨Q, 0, none⟩) 1 1, .int .u64 0, .slice (some ⟨Q, 0, none⟩) 1 1, .int .u64 10000000000000000000] w
    fun e w' => e = .returned (.int .u64 1) ∧ ∃ n, w' = (w.drewN n).setCell ⟨Q, 0, none⟩ (.int .u64 0) := by
  have c0 := hb.cell 0
  have f0 := hb.frozen 0
  simp only [List.getElem?_toArray, List.getElem?_cons_zero] at c0
  clear hb
  go_enter Tryz.func169, Tryz.ntmps169
  go_wp2_with (go_at_call 219; refine (bdiv_one _).mono ?_; rintro e w' ⟨rfl, nd, rfl⟩)
  go_ret
  exact ⟨rfl, nd, rfl⟩
set_option maxRecDepth 100000 in
theorem divW_one (w : World) (Q : Nat) (hb : Blk w Q 111 #[.int .u64 1]) : Calls Tryz.prog 136 #[.slice (some ⟨Q, 0, none⟩) 1 1, .slice (some ⟨Q, 0, none⟩) 1 1, .int .u64 10000000000000000000] w
    fun e w' => e = .returned (.tuple #[.slice (some ⟨Q, 0, none⟩) 0 1, .int .u64 1]) ∧ ∃ n, w' = (w.drewN n).setCell ⟨Q, 0, none⟩ (.int .u64 0) := by
  have hd := divWVW_one w Q hb
  have hn := fun n => norm_zero ((w.drewN n).setCell ⟨Q, 0, none⟩ (.int .u64 0)) Q ((hb.drewN n).set_ 0 (.int .u64 0))
  have Hd := Lib.hid hd
  have Hn := Lib.hid hn
  clear hd hn hb
  go_enter Tryz.func136, Tryz.ntmps136
  go_wp2_with (first
    | (go_at_call 134; refine (fits_one _ _).mono ?_; rintro e w' ⟨rfl, rfl⟩)
    | (go_at_call 169; refine Hd.out.mono ?_; rintro e w' ⟨rfl, nd, rfl⟩)
    | (go_at_call 143; refine (Hn.out _).mono ?_; rintro e w' ⟨rfl, rfl⟩))
  go_returns
  exact ⟨rfl, nd, rfl⟩

set_option maxRecDepth 100000 in
theorem bdiv_two (w : World) : Calls Tryz.prog 219 #[.int .u64 0, .int .u64 2, .int .u64 10000000000000000000] w fun e w' => e = .returned (.tuple #[.int .u64 0, .int .u64 2]) ∧ ∃ n, w' = w.drewN n := by
  go_enter Tryz.func219, Tryz.ntmps219
  go_wp2
  go_quiet (fail)
  go_wp2
  go_returns
  exact ⟨rfl, _, rfl⟩
set_option maxRecDepth 100000 in
theorem divWVW_two (w : World) (Q : Nat) (hb : Blk w Q 111 #[.int .u64 2]) : Calls Tryz.prog 169 #[.slice (some ⟨Q, 0, none⟩) 1 1, .int .u64 0, .slice (some ⟨Q, 0, none⟩) 1 1, .int .u64 10000000000000000000] w
    fun e w' => e = .returned (.int .u64 2) ∧ ∃ n, w' = (w.drewN n).setCell ⟨Q, 0, none⟩ (.int .u64 0) := by
  have c0 := hb.cell 0
  have f0 := hb.frozen 0
  simp only [List.getElem?_toArray, List.getElem?_cons_zero] at c0
  clear hb
  go_enter Tryz.func169, Tryz.ntmps169
  go_wp2_with (go_at_call 219; refine (bdiv_two _).mono ?_; rintro e w' ⟨rfl, nd, rfl⟩)
  go_ret
  exact ⟨rfl, nd, rfl⟩
set_option maxRecDepth 100000 in
theorem divW_two (w : World) (Q : Nat) (hb : Blk w Q 111 #[.int .u64 2]) : Calls Tryz.prog 136 #[.slice (some ⟨Q, 0, none⟩) 1 1, .slice (some ⟨Q, 0, none⟩) 1 1, .int .u64 10000000000000000000] w
    fun e w' => e = .returned (.tuple #[.slice (some ⟨Q, 0, none⟩) 0 1, .int .u64 2]) ∧ ∃ n, w' = (w.drewN n).setCell ⟨Q, 0, none⟩ (.int .u64 0) := by
  have hd := divWVW_two w Q hb
  have hn := fun n => norm_zero ((w.drewN n).setCell ⟨Q, 0, none⟩ (.int .u64 0)) Q ((hb.drewN n).set_ 0 (.int .u64 0))
  have Hd := Lib.hid hd
  have Hn := Lib.hid hn
  clear hd hn hb
  go_enter Tryz.func136, Tryz.ntmps136
  go_wp2_with (first
    | (go_at_call 134; refine (fits_one _ _).mono ?_; rintro e w' ⟨rfl, rfl⟩)
    | (go_at_call 169; refine Hd.out.mono ?_; rintro e w' ⟨rfl, nd, rfl⟩)
    | (go_at_call 143; refine (Hn.out _).mono ?_; rintro e w' ⟨rfl, rfl⟩))
  go_returns
  exact ⟨rfl, nd, rfl⟩

set_option maxRecDepth 100000 in
set_option maxHeartbeats 1000000 in
theorem conv_one (w : World) (Q S K : Nat) (hQ : Blk w Q 111 #[.int .u64 1]) (hS : Blk w S 5 #[.int .u8 0]) :
    Calls Tryz.prog 103 #[.slice (some ⟨Q, 0, none⟩) 1 1, .pointer (some ⟨K, 0, none⟩), .slice (some ⟨S, 0, none⟩) 1 1, .int .u64 10, .int .i64 19, .int .u64 10000000000000000000, .slice none 0 0] w
    fun e w' => e = .returned (.tuple #[]) ∧ Blk w' S 5 #[.int .u8 49] ∧ Tch (fun k => k = Q ∨ k = S) w w' := by
  have hd := divW_one w Q hQ
  have Hd := Lib.hid hd
  have hQS : S ≠ Q := hS.ne_ hQ (by decide)
  have hsz := hS.lt
  have HS := Lib.hid hS
  clear hd hS hQ
  go_enter Tryz.func103, Tryz.ntmps103
  go_wp2
  refine wp_loop_rounds 2 ?_
  rw [rounds_succ]
  go_wp2_with (go_at_call 136; refine Hd.out.mono ?_; rintro e w' ⟨rfl, nd, rfl⟩)
  have hS1 := (HS.out.drewN nd).far (p := ⟨Q, 0, none⟩) hQS (.int .u64 0)
  have f0 := hS1.frozen 0
  have f1 := hS1.frozen 1
  have c0 := hS1.cell 0
  have c1 := hS1.cell 1
  simp only [List.getElem?_toArray, List.getElem?_cons_succ, List.getElem?_cons_zero] at c0 c1
  go_rounds 3
  go_rounds 1
  go_end0
  exact ⟨rfl, hS1.set_ 0 (.int .u8 49), (((Tch.refl _ w).drewN nd).setCell (p := ⟨Q, 0, none⟩) (fun _ => .inl rfl) _).setCell (p := ⟨S, 0, none⟩) (fun _ => .inr rfl) _⟩

set_option maxRecDepth 100000 in
set_option maxHeartbeats 1000000 in
theorem conv_two (w : World) (Q S K : Nat) (hQ : Blk w Q 111 #[.int .u64 2]) (hS : Blk w S 5 #[.int .u8 0, .int .u8 0]) :
    Calls Tryz.prog 103 #[.slice (some ⟨Q, 0, none⟩) 1 1, .pointer (some ⟨K, 0, none⟩), .slice (some ⟨S, 0, none⟩) 2 2, .int .u64 10, .int .i64 19, .int .u64 10000000000000000000, .slice none 0 0] w
    fun e w' => e = .returned (.tuple #[]) ∧ Blk w' S 5 #[.int .u8 48, .int .u8 50] ∧ Tch (fun k => k = Q ∨ k = S) w w' := by
  have hd := divW_two w Q hQ
  have Hd := Lib.hid hd
  have hQS : S ≠ Q := hS.ne_ hQ (by decide)
  have hsz := hS.lt
  have HS := Lib.hid hS
  clear hd hS hQ
  go_enter Tryz.func103, Tryz.ntmps103
  go_wp2
  refine wp_loop_rounds 2 ?_
  rw [rounds_succ]
  go_wp2_with (go_at_call 136; refine Hd.out.mono ?_; rintro e w' ⟨rfl, nd, rfl⟩)
  have hS1 := (HS.out.drewN nd).far (p := ⟨Q, 0, none⟩) hQS (.int .u64 0)
  have f0 := hS1.frozen 0
  have f1 := hS1.frozen 1
  have c0 := hS1.cell 0
  have c1 := hS1.cell 1
  simp only [List.getElem?_toArray, List.getElem?_cons_succ, List.getElem?_cons_zero] at c0 c1
  go_rounds 3
  go_rounds 1
  go_end0
  exact ⟨rfl, (hS1.set_ 1 (.int .u8 50)).set_ 0 (.int .u8 48), (((Tch.refl _ w).drewN nd).setCell (p := ⟨Q, 0, none⟩) (fun _ => .inl rfl) _).setCell (p := ⟨S, 1, none⟩) (fun _ => .inr rfl) _ |>.setCell (p := ⟨S, 0, none⟩) (fun _ => .inr rfl) _⟩
end Go.Proofs.YtbblbolpcdkggaaGreatFmt
