/-
  Walks: math/big.maxPow at 10, math/big.pow.
-/
import Derived.Test.YtbblbolpcdkggaaGreatFmtA2
import Derived.Test.YtbblbolpcdkggaaGreatFmtA3
import Derived.Laws.Externs
import Derived.Laws.MakeOwn
namespace Go.Proofs.YtbblbolpcdkggaaGreatFmt
open Go.RowKit
def U64 (v : Int) : Prop := 0 ≤ v ∧ v ≤ 18446744073709551615
theorem wrap_U64 (n : Int) : U64 (IntKind.u64.wrap n) := by unfold U64; rw [IntKind.wrap_u64]; omega
set_option maxHeartbeats 400000 in
theorem maxPow_ten (w : World) :
    Calls Tryz.prog 100 #[.int .u64 10] w fun e w' => e = .returned (.tuple #[.int .u64 10000000000000000000, .int .i64 19]) ∧ w = w' := by
  go_enter Tryz.func100, Tryz.ntmps100
  go_wp2
  go_rounds 20
  go_ret2
  exact ⟨rfl, rfl⟩
set_option maxHeartbeats 400000 in
theorem pow_any (w : World) (x n : Int) (hx : U64 x) (h0 : 0 ≤ n) (h1 : n ≤ 100) :
    Calls Tryz.prog 141 #[.int .u64 x, .int .i64 n] w fun e w' => (∃ v, U64 v ∧ e = .returned (.int .u64 v)) ∧ w = w' := by
  go_enter Tryz.func141, Tryz.ntmps141
  go_wp2
  go_loop [0, 1, 4] (fun X N P => ∃ a b c : Int, U64 a ∧ 0 ≤ b ∧ b ≤ 100 ∧ U64 c ∧ X = .int .u64 a ∧ N = .int .i64 b ∧ P = .int .u64 c) (fun _ N _ => (intOf N).toNat)
  case atStart => exact ⟨_, _, _, hx, h0, h1, ⟨by omega, by omega⟩, rfl, rfl, rfl⟩
  case round =>
    obtain ⟨a, b, c, ha, hb0, hb1, hc, rfl, rfl, rfl⟩ := hrel
    by_cases hb : 0 < b
    · go_wp2
      all_goals
        go_round
        case rel => exact ⟨_, _, _, wrap_U64 _, by omega, by omega, (by first | exact wrap_U64 _ | exact hc), rfl, rfl, rfl⟩
        case measure => simp [intOf]; omega
    · go_wp2
      go_ret
      exact ⟨⟨c, hc, rfl⟩, rfl⟩
set_option maxHeartbeats 400000 in
theorem mul_any (w : World) (x y : Int) (hx : U64 x) (hy : U64 y) :
    Calls Tryz.prog 167 #[.int .u64 x, .int .u64 y] w fun e w' => (∃ a b, U64 a ∧ U64 b ∧ e = .returned (.tuple #[.int .u64 a, .int .u64 b])) ∧ w = w' := by
  unfold U64 at hx hy
  obtain ⟨X, rfl⟩ := Int.eq_ofNat_of_zero_le hx.1
  obtain ⟨Y, rfl⟩ := Int.eq_ofNat_of_zero_le hy.1
  refine (Tryz.bits_Mul X Y (by omega) (by omega) w).mono ?_
  rintro e w' ⟨he, rfl⟩
  refine ⟨⟨_, _, ?_, ?_, he⟩, rfl⟩
  · refine ⟨Int.natCast_nonneg _, ?_⟩
    have h : X * Y ≤ 18446744073709551615 * 18446744073709551615 := Nat.mul_le_mul (by omega) (by omega)
    have h2 : X * Y / 18446744073709551616 ≤ 18446744073709551615 := by omega
    exact Int.ofNat_le.2 h2
  · refine ⟨Int.natCast_nonneg _, ?_⟩
    have h2 : X * Y % 18446744073709551616 ≤ 18446744073709551615 := by omega
    exact Int.ofNat_le.2 h2
theorem add64_run (x y : Int) (hx : U64 x) (hy : U64 y) : ∃ a b, U64 a ∧ U64 b ∧ ∀ w, (callFunc 177 #[.int .u64 x, .int .u64 y, .int .u64 0]).run Tryz.prog w = .ok (.value (.tuple #[.int .u64 a, .int .u64 b])) w := by
  unfold U64 at hx hy
  refine ⟨(x + y + 0) % 18446744073709551616, (x + y + 0) / 18446744073709551616, ⟨by omega, by omega⟩, ⟨by omega, by omega⟩, fun w => ?_⟩
  rw [run_callFunc_extern Tryz.func177 (by kernel_rfl) (by kernel_rfl) (by kernel_rfl) (e := add64Entry) (by kernel_rfl), run_add64 x y 0 (by omega) (by omega) (by omega) (by omega)]
  rfl
set_option maxHeartbeats 400000 in
theorem add_any (w : World) (x y : Int) (hx : U64 x) (hy : U64 y) :
    Calls Tryz.prog 147 #[.int .u64 x, .int .u64 y, .int .u64 0] w fun e w' => (∃ a b, U64 a ∧ U64 b ∧ e = .returned (.tuple #[.int .u64 a, .int .u64 b])) ∧ w = w' := by
  obtain ⟨a, b, ha, hb, hrun⟩ := add64_run x y hx hy
  go_enter Tryz.func147, Tryz.ntmps147
  go_wp2
  go_ret2
  exact ⟨⟨a, b, ha, hb, rfl⟩, rfl⟩
def TwoU (w : World) (e : Ending) (w' : World) : Prop := (∃ a b, U64 a ∧ U64 b ∧ e = .returned (.tuple #[.int .u64 a, .int .u64 b])) ∧ w = w'
set_option maxHeartbeats 400000 in
theorem mulAddWWW_any (w : World) (x y c : Int) (hx : U64 x) (hy : U64 y) (hc : U64 c) :
    Calls Tryz.prog 133 #[.int .u64 x, .int .u64 y, .int .u64 c] w (TwoU w) := by
  go_enter Tryz.func133, Tryz.ntmps133
  go_wp2_with (first
    | (go_at_call 167; refine (mul_any _ _ _ hx hy).mono ?_; rintro e w' ⟨⟨h, l, hh, hl, rfl⟩, rfl⟩)
    | (go_at_call 147; refine (add_any _ _ _ (by assumption) hc).mono ?_; rintro e w' ⟨⟨s, cc, hs, hcc, rfl⟩, rfl⟩))
  go_ret2
  exact ⟨⟨_, _, wrap_U64 _, by assumption, rfl⟩, rfl⟩
end Go.Proofs.YtbblbolpcdkggaaGreatFmt
/-
  Walks: math/big's nat: make, setWord, norm.
-/
namespace Go.Proofs.YtbblbolpcdkggaaGreatFmt
open Go.RowKit

def Words (cs : Array Value) : Prop := ∀ (i : Nat) (u : Value), cs[i]? = some u → ∃ v, U64 v ∧ u = .int .u64 v
def NatBig : Nat := 1000000
/-- v is a nat of n words, in a block of the call's own (from base on), or nil. -/
def NatV (w : World) (base : Nat) (v : Value) (n : Nat) : Prop :=
  (v = .slice none 0 0 ∧ n = 0) ∨ ∃ g cs, v = .slice (some ⟨g, 0, none⟩) n cs.size ∧ Blk w g 111 cs ∧ n ≤ cs.size ∧ cs.size ≤ NatBig + 10 ∧ base ≤ g ∧ Words cs
theorem Words.set_ {cs : Array Value} (h : Words cs) (i : Nat) {v : Int} (hv : U64 v) : Words (cs.setIfInBounds i (.int .u64 v)) := by
  intro j u hj
  rw [Array.getElem?_setIfInBounds] at hj
  split at hj
  · split at hj
    · injection hj with hj; exact ⟨v, hv, hj.symm⟩
    · cases hj
  · exact h j u hj
theorem Words.made (n : Nat) : Words (madeCells #[.int .u64 0] n) := by
  intro i u hi
  rw [← Array.getElem?_toList, toList_madeCells_one, List.getElem?_replicate] at hi
  split at hi
  · injection hi with hi; exact ⟨0, ⟨by omega, by omega⟩, hi.symm⟩
  · cases hi
theorem Words.at_ {cs : Array Value} (h : Words cs) {i : Nat} (hi : i < cs.size) : ∃ v, U64 v ∧ cs[i]? = some (.int .u64 v) := by
  obtain ⟨v, hv, e⟩ := h i cs[i] (Array.getElem?_eq_getElem hi)
  exact ⟨v, hv, by rw [Array.getElem?_eq_getElem hi, e]⟩
theorem NatV.tch {w w' : World} {base n : Nat} {v : Value} {S : Nat → Prop} (h : NatV w base v n) (ht : Tch S w w') (hs : ∀ k, v.ownBlock = some k → ¬ S k) : NatV w' base v n := by
  rcases h with h | ⟨g, cs, rfl, hb, h1, h2, h3, h4⟩
  · exact .inl h
  · exact .inr ⟨g, cs, rfl, hb.tch ht (hs g rfl), h1, h2, h3, h4⟩
theorem info111 : (Tryz.prog.info? 111).map (fun i => (i.zero, i.size, i.bytes)) = some (some (.int .u64 0), 1, 8) := by kernel_rfl
theorem run_made (k c : Int) (h0 : 0 ≤ k) (hk : k ≤ c) (hc : c ≤ 2000000) (w : World) :
    (Instr.makeSlice 67 (.int .i64 k) (.int .i64 c)).run Tryz.prog w = .ok (.slice (some ⟨w.heap.size, 0, none⟩) k.toNat c.toNat) (w.alloc (.cells (madeCells #[.int .u64 0] c.toNat) 111)) := by
  obtain ⟨i, hi, hz⟩ := Option.map_eq_some_iff.1 info111
  simp only [Prod.mk.injEq] at hz
  obtain ⟨h1, h2, h3⟩ := hz
  have := run_make (P := Tryz.prog) w 67 111 i (.int .u64 0) Tryz.underlying67 hi h1 .i64 .i64 k c h0 hk (by rw [h3]; omega) (by omega)
  rw [this, h2, Nat.mul_one]; rfl
/-- What make, setWord and their like leave: a nat; nothing that was there is changed. -/
def Own (v : Value) (k : Nat) : Prop := v.ownBlock = some k
def MadeNat (v0 : Value) (base n : Nat) (w : World) (e : Ending) (w' : World) : Prop := ∃ v, e = .returned v ∧ NatV w' base v n ∧ Tch Nil w w' ∧ ∀ k, Own v k → Own v0 k ∨ w.heap.size ≤ k
set_option maxHeartbeats 400000 in
theorem make_fits (w : World) (g n k : Nat) (cs : Array Value) (_hcs : cs.size ≤ NatBig + 10) (_hn : n ≤ cs.size) (hk : k ≤ cs.size) :
    Calls Tryz.prog 134 #[.slice (some ⟨g, 0, none⟩) n cs.size, .int .i64 k] w fun e w' => e = .returned (.slice (some ⟨g, 0, none⟩) k cs.size) ∧ w = w' := by
  unfold NatBig at _hcs
  go_enter Tryz.func134, Tryz.ntmps134
  go_wp2
  go_ret
  exact ⟨rfl, rfl⟩
set_option maxHeartbeats 400000 in
theorem make_new (w : World) (A : Option Addr) (n cap k : Nat) (hk : cap < k) (hkb : k ≤ NatBig) :
    Calls Tryz.prog 134 #[.slice A n cap, .int .i64 k] w fun e w' => ∃ c : Nat, k ≤ c ∧ c ≤ NatBig + 10 ∧ e = .returned (.slice (some ⟨w.heap.size, 0, none⟩) k c) ∧ w' = w.alloc (.cells (madeCells #[.int .u64 0] c) 111) := by
  unfold NatBig at hkb ⊢
  have hk0 : ¬ (k : Int) ≤ cap := by omega
  by_cases h1 : k = 1
  · have hm := fun w => run_made 1 1 (by omega) (by omega) (by omega) w
    have hk1 : ((k : Int) == 1) = true := by rw [beq_iff_eq]; omega
    have hfin : ∃ c : Nat, k ≤ c ∧ c ≤ 1000000 + 10 ∧ Ending.returned (.slice (some ⟨w.heap.size, 0, none⟩) 1 1) = Ending.returned (.slice (some ⟨w.heap.size, 0, none⟩) k c) ∧ w.alloc (.cells (madeCells #[.int .u64 0] 1) 111) = w.alloc (.cells (madeCells #[.int .u64 0] c) 111) := ⟨1, by omega, by omega, by rw [h1], rfl⟩
    have Hfin := Lib.hid hfin; clear hfin h1
    go_enter Tryz.func134, Tryz.ntmps134
    go_wp2
    go_ret
    exact Hfin.out
  · have hm := fun w => run_made (k : Int) ((k : Int) + 4) (by omega) (by omega) (by omega) w
    have e1 : (k : Int).toNat = k := by omega
    have e2 : ((k : Int) + 4).toNat = k + 4 := by omega
    simp only [e1, e2] at hm
    clear e1 e2
    have hk1 : ((k : Int) == 1) = false := by rw [beq_eq_false_iff_ne]; omega
    go_enter Tryz.func134, Tryz.ntmps134
    go_wp2
    go_ret
    exact ⟨k + 4, by omega, by omega, rfl, rfl⟩
theorem made_nat (w : World) (base k c : Nat) (hB : base ≤ w.heap.size) (hk : k ≤ c) (hc : c ≤ NatBig + 10) :
    NatV (w.alloc (.cells (madeCells #[.int .u64 0] c) 111)) base (.slice (some ⟨w.heap.size, 0, none⟩) k c) k := by
  refine .inr ⟨w.heap.size, madeCells #[.int .u64 0] c, by rw [size_madeCells], Blk.new _ _ _, by rw [size_madeCells]; exact hk, by rw [size_madeCells]; exact hc, hB, Words.made c⟩
theorem make_any (w : World) (base n k : Nat) (v : Value) (hv : NatV w base v n) (hB : base ≤ w.heap.size) (hk : k ≤ NatBig) :
    Calls Tryz.prog 134 #[v, .int .i64 k] w (MadeNat v base k w) := by
  rcases hv with ⟨rfl, rfl⟩ | ⟨g, cs, rfl, hb, h1, h2, h3, h4⟩
  · by_cases h0 : k = 0
    · subst h0
      have hz : (((0 : Nat) : Int) ≤ ((0 : Nat) : Int)) := by omega
      go_enter Tryz.func134, Tryz.ntmps134
      go_wp2
      go_ret
      exact ⟨_, rfl, .inl ⟨rfl, rfl⟩, Tch.refl _ _, fun k h => by cases h⟩
    · refine (make_new w none 0 0 k (by omega) hk).mono ?_
      rintro e w' ⟨c, hc1, hc2, rfl, rfl⟩
      exact ⟨_, rfl, made_nat w base k c hB hc1 hc2, (Tch.refl _ _).alloc _, fun j h => by injection h with h; exact .inr (Nat.le_of_eq h)⟩
  · by_cases hkc : k ≤ cs.size
    · refine (make_fits w g n k cs h2 h1 hkc).mono ?_
      rintro e w' ⟨rfl, rfl⟩
      exact ⟨_, rfl, .inr ⟨g, cs, rfl, hb, hkc, h2, h3, h4⟩, Tch.refl _ _, fun j h => .inl h⟩
    · refine (make_new w _ n cs.size k (by omega) hk).mono ?_
      rintro e w' ⟨c, hc1, hc2, rfl, rfl⟩
      exact ⟨_, rfl, made_nat w base k c hB hc1 hc2, (Tch.refl _ _).alloc _, fun j h => by injection h with h; exact .inr (Nat.le_of_eq h)⟩
end Go.Proofs.YtbblbolpcdkggaaGreatFmt
/-
  Walks: math/big's nat: setWord, norm.
-/
namespace Go.Proofs.YtbblbolpcdkggaaGreatFmt
open Go.RowKit
/-- What a nat's method leaves: a nat of at most N words; what was there is changed in the blocks of S alone. -/
def NatOut (base N : Nat) (S : Nat → Prop) (w : World) (e : Ending) (w' : World) : Prop := ∃ v m, e = .returned v ∧ NatV w' base v m ∧ m ≤ N ∧ Tch S w w'
theorem NatV.lt {w : World} {base n : Nat} {v : Value} (h : NatV w base v n) {k : Nat} (hk : Own v k) : base ≤ k ∧ k < w.heap.size ∧ ∃ cs, Blk w k 111 cs := by
  rcases h with ⟨rfl, _⟩ | ⟨g, cs, rfl, hb, _, _, h3, _⟩
  · cases hk
  · injection hk with hk; subst hk; exact ⟨h3, hb.lt, cs, hb⟩
set_option maxHeartbeats 400000 in
theorem setWord_zero (w : World) (base n : Nat) (v : Value) (hv : NatV w base v n) :
    Calls Tryz.prog 160 #[v, .int .u64 0] w (NatOut base 0 Nil w) := by
  rcases hv with ⟨rfl, rfl⟩ | ⟨g, cs, rfl, hb, h1, h2, h3, h4⟩
  · go_enter Tryz.func160, Tryz.ntmps160
    go_wp2
    go_ret
    exact ⟨_, 0, rfl, .inl ⟨rfl, rfl⟩, Nat.le_refl _, Tch.refl _ _⟩
  · unfold NatBig at h2
    go_enter Tryz.func160, Tryz.ntmps160
    go_wp2
    go_ret
    exact ⟨_, 0, rfl, .inr ⟨g, cs, rfl, hb, Nat.zero_le _, h2, h3, h4⟩, Nat.le_refl _, Tch.refl _ _⟩
theorem madeOne : madeCells #[.int .u64 0] 1 = #[.int .u64 0] := Array.toList_inj.1 (by rw [toList_madeCells_one]; rfl)
set_option maxHeartbeats 400000 in
theorem make_one (w : World) :
    Calls Tryz.prog 134 #[.slice none 0 0, .int .i64 1] w fun e w' => e = .returned (.slice (some ⟨w.heap.size, 0, none⟩) 1 1) ∧ w' = w.alloc (.cells #[.int .u64 0] 111) := by
  have hm := fun w => run_made 1 1 (by omega) (by omega) (by omega) w
  have e1 : (1 : Int).toNat = 1 := rfl
  simp only [e1, madeOne] at hm
  clear e1
  go_enter Tryz.func134, Tryz.ntmps134
  go_wp2
  go_ret
  exact ⟨rfl, rfl⟩
set_option maxHeartbeats 400000 in
/-- setWord of nil and a word that is not 0: one new block. -/
theorem setWord_nil (w : World) (x : Int) (h0 : (x == 0) = false) :
    Calls Tryz.prog 160 #[.slice none 0 0, .int .u64 x] w fun e w' => e = .returned (.slice (some ⟨w.heap.size, 0, none⟩) 1 1) ∧ Blk w' w.heap.size 111 #[.int .u64 x] ∧ Tch Nil w w' ∧ w'.heap.size = w.heap.size + 1 := by
  go_enter Tryz.func160, Tryz.ntmps160
  go_wp2_with fail
  refine (make_one w).mono ?_
  rintro e w1 ⟨rfl, rfl⟩
  have hb := Blk.new w 111 #[.int .u64 0]
  have hf := hb.frozen 0
  have hc := hb.cell 0
  simp only [List.getElem?_toArray, List.getElem?_cons_zero] at hc
  clear hb
  go_wp2
  go_ret
  exact ⟨rfl, Blk.new _ _ _, (Tch.refl _ _).alloc _, by simp⟩
set_option maxHeartbeats 400000 in
theorem setWord_pos (w : World) (base n : Nat) (v : Value) (x : Int) (hv : NatV w base v n) (hB : base ≤ w.heap.size) (hx : U64 x) (h0 : (x == 0) = false) :
    Calls Tryz.prog 160 #[v, .int .u64 x] w (NatOut base 1 (Own v) w) := by
  go_enter Tryz.func160, Tryz.ntmps160
  go_wp2_with fail
  refine (make_any w base n 1 v hv hB (by unfold NatBig; omega)).mono ?_
  rintro e w1 ⟨v1, rfl, hv1, ht1, ho⟩
  rcases hv1 with ⟨_, h⟩ | ⟨g, cs, rfl, hb, h1, h2, h3, h4⟩
  · cases h
  have hf := hb.frozen 0
  obtain ⟨y, _, hy⟩ := h4.at_ h1
  have hc : w1.cell? ⟨g, 0, none⟩ = some (.int .u64 y) := (hb.cell 0).trans hy
  unfold NatBig at h2
  have ht : ∀ u, Tch (Own v) w (w1.setCell ⟨g, 0, none⟩ u) := fun u => (ht1.nil _).setCell (fun h => (ho g rfl).resolve_right (by simp at h; omega)) u
  have Ht := Lib.hid ht; clear ht ho
  go_wp2
  go_ret
  exact ⟨_, 1, rfl, .inr ⟨g, cs.setIfInBounds 0 (.int .u64 x), by simp, hb.set_ 0 _, by simpa using h1, by unfold NatBig; simpa using h2, h3, h4.set_ 0 hx⟩, Nat.le_refl _, Ht.out _⟩
end Go.Proofs.YtbblbolpcdkggaaGreatFmt
/-
  Walks: math/big's nat.norm, mulAddVWW.
-/
namespace Go.Proofs.YtbblbolpcdkggaaGreatFmt
open Go.RowKit
def NormOut (base n : Nat) (v : Value) (w : World) (e : Ending) (w' : World) : Prop := (∃ v' m, e = .returned v' ∧ NatV w base v' m ∧ m ≤ n ∧ (∀ k, Own v' k → Own v k)) ∧ w = w'
set_option maxHeartbeats 400000 in
theorem norm_any (w : World) (base n : Nat) (v : Value) (hv : NatV w base v n) :
    Calls Tryz.prog 143 #[v] w (NormOut base n v w) := by
  rcases hv with ⟨rfl, rfl⟩ | ⟨g, cs, rfl, hb, h1, h2, h3, h4⟩
  · go_enter Tryz.func143, Tryz.ntmps143
    go_wp2
    go_rounds 2
    go_ret
    exact ⟨⟨_, 0, rfl, .inl ⟨rfl, rfl⟩, Nat.le_refl _, fun _ h => h⟩, rfl⟩
  · have h2' := h2
    unfold NatBig at h2'
    have H := Lib.hid h2; clear h2
    go_enter Tryz.func143, Tryz.ntmps143
    go_wp2
    go_loop [3] (fun i => ∃ k : Nat, k ≤ n ∧ i = .int .i64 k) (fun i => (intOf i).toNat)
    case atStart => exact ⟨n, Nat.le_refl _, rfl⟩
    case round =>
      obtain ⟨k, hk, rfl⟩ := hrel
      by_cases h0 : k = 0
      · subst h0
        go_wp2
        go_ret
        exact ⟨⟨_, 0, rfl, .inr ⟨g, cs, rfl, hb, by omega, H.out, h3, h4⟩, by omega, fun _ h => h⟩, rfl⟩
      · obtain ⟨j, rfl⟩ := Nat.exists_eq_succ_of_ne_zero h0
        obtain ⟨y, hy, hcy⟩ := h4.at_ (i := j) (by omega)
        have hc : w.cell? ⟨g, j, none⟩ = some (.int .u64 y) := (hb.cell j).trans hcy
        clear hcy h0
        cases hz : (y == 0)
        · go_wp2
          go_ret
          exact ⟨⟨_, j + 1, rfl, .inr ⟨g, cs, rfl, hb, by omega, H.out, h3, h4⟩, by omega, fun _ h => h⟩, rfl⟩
        · go_wp2
          go_round
          case rel => exact ⟨j, by omega, by go_num⟩
          case measure => simp [intOf]
theorem words_store {w : World} {gz gx k : Nat} {csz csx : Array Value} {v : Int} (hz : Blk w gz 111 csz) (hx : Blk w gx 111 csx) (wx : Words csx) (hv : U64 v) :
    ∃ csx', Blk (w.setCell ⟨gz, k, none⟩ (.int .u64 v)) gx 111 csx' ∧ Words csx' ∧ csx'.size = csx.size := by
  by_cases h : gx = gz
  · subst h
    obtain rfl := hz.same hx
    exact ⟨_, hz.set_ k _, wx.set_ k hv, by simp⟩
  · exact ⟨_, hx.far (p := ⟨gz, k, none⟩) h _, wx, rfl⟩
def VWW (gz : Nat) (Z : Nat) (w : World) (e : Ending) (w' : World) : Prop := (∃ c, U64 c ∧ e = .returned (.int .u64 c)) ∧ (∃ cs, Blk w' gz 111 cs ∧ Words cs ∧ cs.size = Z) ∧ Tch (· = gz) w w'
set_option maxHeartbeats 400000 in
theorem mulAddVWW_any (w : World) (gz gx m X Z : Nat) (csz csx : Array Value) (y r : Int) (hz : Blk w gz 111 csz) (hx : Blk w gx 111 csx) (wz : Words csz) (wx : Words csx)
    (sz : csz.size = Z) (sx : csx.size = X) (hmz : m ≤ Z) (hmx : m ≤ X) (hm : m ≤ NatBig) (hy : U64 y) (hr : U64 r) :
    Calls Tryz.prog 69 #[.slice (some ⟨gz, 0, none⟩) m Z, .slice (some ⟨gx, 0, none⟩) m X, .int .u64 y, .int .u64 r] w (VWW gz Z w) := by
  unfold NatBig at hm
  have Sz := Lib.hid sz; clear sz
  have Sx := Lib.hid sx; clear sx
  go_enter Tryz.func69, Tryz.ntmps69
  go_wp2
  go_loopw [8, 19] (fun c i wr => ∃ k : Nat, ∃ cv : Int, ∃ a b : Array Value, k ≤ m ∧ i = .int .i64 k ∧ U64 cv ∧ c = .int .u64 cv ∧ Blk wr gz 111 a ∧ Blk wr gx 111 b ∧ Words a ∧ Words b ∧ Hid (a.size = Z) ∧ Hid (b.size = X) ∧ Tch (· = gz) w wr) (fun _ i _ => m - (intOf i).toNat)
  case atStart => exact ⟨0, r, csz, csx, by omega, rfl, hr, rfl, hz, hx, wz, wx, Sz, Sx, Tch.refl _ _⟩
  case round =>
    obtain ⟨k, cv, a, b, hk, rfl, hc, rfl, ha, hb, wa, wb, sa, sb, ht⟩ := hrel
    by_cases hlt : k < m
    · obtain ⟨xv, hxv, hcx⟩ := wb.at_ (i := k) (by rw [sb.out]; omega)
      have hcx' : wr.cell? ⟨gx, k, none⟩ = some (.int .u64 xv) := (hb.cell k).trans hcx
      obtain ⟨zv, hzv, hcz⟩ := wa.at_ (i := k) (by rw [sa.out]; omega)
      have hcz' : wr.cell? ⟨gz, k, none⟩ = some (.int .u64 zv) := (ha.cell k).trans hcz
      have hf := ha.frozen k
      clear hcx hcz
      go_wp2_with (go_at_call 133; refine (mulAddWWW_any _ _ _ _ hxv hy hc).mono ?_; rintro e w1 ⟨⟨p, q, hp, hq, rfl⟩, rfl⟩)
      go_roundw
      case rel =>
        obtain ⟨b', hb', wb', sb'⟩ := words_store (k := k) ha hb wb hq
        exact ⟨k + 1, p, _, b', by omega, by go_num, hp, rfl, ha.set_ k _, hb', wa.set_ k hq, wb', by have h := sa.out; exact Lib.hid (by simpa using h), Lib.hid (sb'.trans sb.out), ht.setCell (fun _ => rfl) _⟩
      case measure => simp [intOf]; omega
    · go_wp2
      go_ret
      exact ⟨⟨cv, hc, rfl⟩, ⟨a, ha, wa, sa.out⟩, ht⟩
end Go.Proofs.YtbblbolpcdkggaaGreatFmt
/-
  Walks: math/big's nat.mulAddWW.
-/
namespace Go.Proofs.YtbblbolpcdkggaaGreatFmt
open Go.RowKit
theorem setWord_any (w : World) (base n : Nat) (v : Value) (x : Int) (hv : NatV w base v n) (hB : base ≤ w.heap.size) (hx : U64 x) :
    Calls Tryz.prog 160 #[v, .int .u64 x] w (NatOut base 1 (Own v) w) := by
  cases h0 : (x == 0)
  · exact setWord_pos w base n v x hv hB hx h0
  · obtain rfl := beq_iff_eq.1 h0
    refine (setWord_zero w base n v hv).mono ?_
    rintro e w' ⟨v', m, he, h1, h2, h3⟩
    exact ⟨v', m, he, h1, by omega, h3.nil _⟩
theorem make_at (w : World) (base n : Nat) (kk : Int) (k : Nat) (v : Value) (hk : kk = k) (hv : NatV w base v n) (hB : base ≤ w.heap.size) (hb : k ≤ NatBig) :
    Calls Tryz.prog 134 #[v, .int .i64 kk] w (MadeNat v base k w) := by
  subst hk; exact make_any w base n k v hv hB hb
theorem NatOut.more {base N N' : Nat} {S : Nat → Prop} {w w' : World} {e : Ending} (h : NatOut base N S w e w') (hN : N ≤ N') : NatOut base N' S w e w' := by
  obtain ⟨v, m, he, h1, h2, h3⟩ := h
  exact ⟨v, m, he, h1, by omega, h3⟩
set_option maxHeartbeats 400000 in
theorem mulAddWW_nil (w : World) (base : Nat) (v : Value) (y r : Int) (hv : NatV w base v 0) (hB : base ≤ w.heap.size) (hr : U64 r) :
    Calls Tryz.prog 140 #[v, v, .int .u64 y, .int .u64 r] w (NatOut base 1 (Own v) w) := by
  rcases hv with ⟨rfl, _⟩ | ⟨g, cs, rfl, hb, h1, h2, h3, h4⟩
  · go_enter Tryz.func140, Tryz.ntmps140
    go_wp2_with (go_at_call 160; refine (setWord_any w base 0 _ r (.inl ⟨rfl, rfl⟩) hB hr).mono ?_; rintro e w1 ⟨v1, m, rfl, h1, h2, h3⟩)
    go_ret
    exact ⟨_, m, rfl, h1, h2, h3⟩
  · have H2 := Lib.hid h2; clear h2
    go_enter Tryz.func140, Tryz.ntmps140
    go_wp2_with (go_at_call 160; refine (setWord_any w base 0 _ r (.inr ⟨g, cs, rfl, hb, h1, H2.out, h3, h4⟩) hB hr).mono ?_; rintro e w1 ⟨v1, m, rfl, k1, k2, k3⟩)
    go_ret
    exact ⟨_, m, rfl, k1, k2, k3⟩
set_option maxHeartbeats 400000 in
theorem mulAddWW_zero (w : World) (base n g : Nat) (cs : Array Value) (r : Int) (hb : Blk w g 111 cs) (h1 : n ≤ cs.size) (h2 : cs.size ≤ NatBig + 10) (h3 : base ≤ g) (h4 : Words cs) (hB : base ≤ w.heap.size) (hr : U64 r) (hn : 0 < n) :
    Calls Tryz.prog 140 #[.slice (some ⟨g, 0, none⟩) n cs.size, .slice (some ⟨g, 0, none⟩) n cs.size, .int .u64 0, .int .u64 r] w (NatOut base 1 (Own (.slice (some ⟨g, 0, none⟩) n cs.size)) w) := by
  have H2 := Lib.hid h2; clear h2
  have hn0 : ((n : Int) == 0) = false := by rw [beq_eq_false_iff_ne]; omega
  go_enter Tryz.func140, Tryz.ntmps140
  go_wp2_with (go_at_call 160; refine (setWord_any w base n _ r (.inr ⟨g, cs, rfl, hb, h1, H2.out, h3, h4⟩) hB hr).mono ?_; rintro e w1 ⟨v1, m, rfl, k1, k2, k3⟩)
  go_ret
  exact ⟨_, m, rfl, k1, k2, k3⟩
set_option maxHeartbeats 400000 in
theorem mulAddWW_pos (w : World) (base n g : Nat) (cs : Array Value) (y r : Int) (hb : Blk w g 111 cs) (h1 : n ≤ cs.size) (h2 : cs.size ≤ NatBig + 10) (h3 : base ≤ g) (h4 : Words cs) (hB : base ≤ w.heap.size) (hy : U64 y) (hr : U64 r) (hn : 0 < n)
    (hy0 : (y == 0) = false) (hnb : n < NatBig) :
    Calls Tryz.prog 140 #[.slice (some ⟨g, 0, none⟩) n cs.size, .slice (some ⟨g, 0, none⟩) n cs.size, .int .u64 y, .int .u64 r] w (NatOut base (n + 1) (Own (.slice (some ⟨g, 0, none⟩) n cs.size)) w) := by
  have H2 := Lib.hid h2; clear h2
  have Hb := Lib.hid hb; clear hb
  have hn0 : ((n : Int) == 0) = false := by rw [beq_eq_false_iff_ne]; omega
  have hnb' : n < 1000000 := hnb
  go_enter Tryz.func140, Tryz.ntmps140
  go_wp2_with fail
  refine (make_at w base n _ (n + 1) _ (by omega) (.inr ⟨g, cs, rfl, Hb.out, h1, H2.out, h3, h4⟩) hB (by unfold NatBig; omega)).mono ?_
  rintro e w1 ⟨v1, rfl, hv1, ht1, ho⟩
  rcases hv1 with ⟨_, h⟩ | ⟨g1, cs1, rfl, hb1, k1, k2, k3, k4⟩
  · cases h
  have hx := (Hb.out.tch ht1 (fun e => e))
  have k2' : cs1.size ≤ 1000010 := k2
  clear k2
  have Ho := Lib.hid ho; clear ho
  have Hb1 := Lib.hid hb1; clear hb1
  have Hx := Lib.hid hx; clear hx
  have ht1' := ht1.size
  go_wp2_with fail
  refine (mulAddVWW_any w1 g1 g n cs.size cs1.size cs1 cs y r Hb1.out Hx.out k4 h4 rfl rfl (by omega) h1 (by unfold NatBig; omega) hy hr).mono ?_
  rintro e w2 ⟨⟨c, hc, rfl⟩, ⟨a, ha, wa, sa⟩, ht2⟩
  obtain ⟨zv, hzv, hcz⟩ := wa.at_ (i := n) (by rw [sa]; omega)
  have hcz' : w2.cell? ⟨g1, n, none⟩ = some (.int .u64 zv) := (ha.cell n).trans hcz
  have hf := ha.frozen n
  have hset : ∀ u, U64 u → NatV (w2.setCell ⟨g1, n, none⟩ (.int .u64 u)) base (.slice (some ⟨g1, 0, none⟩) (n + 1) cs1.size) (n + 1) := fun u hu =>
    .inr ⟨g1, a.setIfInBounds n (.int .u64 u), by simp [sa], ha.set_ n _, by simp [sa]; omega, by unfold NatBig; simp [sa]; omega, k3, wa.set_ n hu⟩
  have htt : ∀ u, Tch (Own (.slice (some ⟨g, 0, none⟩) n cs.size)) w (w2.setCell ⟨g1, n, none⟩ u) := fun u =>
    ((ht1.nil _).trans ht2 (fun k hk e => (Ho.out k (by rw [e]; rfl)).resolve_right (by omega))).setCell (fun hk => (Ho.out g1 rfl).resolve_right (by simp at hk; omega)) u
  have howp : ∀ k, Own (.slice (some ⟨g1, 0, none⟩) (n + 1) cs1.size) k → k = g1 := fun k h => by injection h with h; exact h.symm
  have Hset := Lib.hid hset; clear hset
  have Htt := Lib.hid htt; clear htt howp hcz
  have Sa := Lib.hid sa; clear sa
  go_wp2_with fail
  refine (norm_any _ base (n + 1) _ (Hset.out c hc)).mono ?_
  rintro e w3 ⟨⟨v', m, rfl, hv', hm, _⟩, rfl⟩
  go_wp2_with fail
  go_ret
  exact ⟨v', m, rfl, hv', hm, Htt.out _⟩
theorem mulAddWW_any (w : World) (base n : Nat) (v : Value) (y r : Int) (hv : NatV w base v n) (hB : base ≤ w.heap.size) (hy : U64 y) (hr : U64 r) (hnb : n < NatBig) :
    Calls Tryz.prog 140 #[v, v, .int .u64 y, .int .u64 r] w (NatOut base (n + 1) (Own v) w) := by
  by_cases hn : n = 0
  · subst hn; exact mulAddWW_nil w base v y r hv hB hr
  · rcases hv with ⟨rfl, h⟩ | ⟨g, cs, rfl, hb, h1, h2, h3, h4⟩
    · exact absurd h hn
    · cases h0 : (y == 0)
      · exact mulAddWW_pos w base n g cs y r hb h1 h2 h3 h4 hB hy hr (by omega) h0 hnb
      · obtain rfl := beq_iff_eq.1 h0
        exact (mulAddWW_zero w base n g cs r hb h1 h2 h3 h4 hB hr (by omega)).mono fun e w' h => h.more (by omega)
end Go.Proofs.YtbblbolpcdkggaaGreatFmt
