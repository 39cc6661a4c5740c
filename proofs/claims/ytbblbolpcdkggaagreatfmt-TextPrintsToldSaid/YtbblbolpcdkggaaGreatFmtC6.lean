/-
  Walks: text.Parse of "x^2 - 2".
-/
import Derived.Test.YtbblbolpcdkggaaGreatFmtC3
import Derived.Test.YtbblbolpcdkggaaGreatFmtC5
namespace Go.Proofs.YtbblbolpcdkggaaGreatFmt
open Go.RowKit
/-- The machine's cells while its terms are made: the first n are there. -/
structure CsN (n : Nat) (Z : Nat) (cs : Array Value) : Prop where
  size : cs.size = 70
  c0 : cs[0]? = some (.string sx)
  c1 : cs[1]? = some (.int .i64 0)
  c2 : cs[2]? = some (.bool false)
  c3 : cs[3]? = some (.pointer none)
  ts : ∀ k, k < n → cs[4 + k]? = some (.pointer (some ⟨Z + k, 0, none⟩))
  c69 : cs[69]? = some (.bool false)
theorem CsN.more {n Z : Nat} {cs : Array Value} (h : CsN n Z cs) (hn : n < 65) : CsN (n + 1) Z (cs.setIfInBounds (4 + n) (.pointer (some ⟨Z + n, 0, none⟩))) := by
  refine ⟨by simp [h.size], ?_, ?_, ?_, ?_, fun k hk => ?_, ?_⟩
  · rw [Array.getElem?_setIfInBounds, if_neg (by omega)]; exact h.c0
  · rw [Array.getElem?_setIfInBounds, if_neg (by omega)]; exact h.c1
  · rw [Array.getElem?_setIfInBounds, if_neg (by omega)]; exact h.c2
  · rw [Array.getElem?_setIfInBounds, if_neg (by omega)]; exact h.c3
  · by_cases e : k = n
    · subst e; rw [Array.getElem?_setIfInBounds, if_pos rfl, if_pos (by rw [h.size]; omega)]
    · rw [Array.getElem?_setIfInBounds, if_neg (by omega)]; exact h.ts k (by omega)
  · rw [Array.getElem?_setIfInBounds, if_neg (by omega)]; exact h.c69
theorem CsN.whole {Z : Nat} {cs : Array Value} (h : CsN 65 Z cs) : Cs sx 0 false (.pointer none) Z cs := ⟨h.size, h.c0, h.c1, h.c2, h.c3, h.ts, h.c69⟩
def MakeRel (w : World) (i : Value) (wr : World) : Prop := ∃ (n : Nat) (cs : Array Value), n ≤ 65 ∧ i = .int .i64 n ∧ Blk wr w.heap.size 65 cs ∧ CsN n (w.heap.size + 1) cs ∧
  (∀ k, k < n → Blk wr (w.heap.size + 1 + k) 69 #[.bool false, .slice none 0 0]) ∧ wr.heap.size = w.heap.size + 1 + n ∧ Tch Nil w wr
def ParseOut (w : World) (e : Ending) (w' : World) : Prop := ∃ g cap, e = .returned (.tuple #[.slice (some ⟨g, 0, none⟩) 3 cap, .int .i64 0, .int .i64 0]) ∧ 3 ≤ cap ∧ StrsAt w' g 0 tx ∧ Tch Nil w w'
theorem St.not111 {w : World} {M p Z : Nat} {s : ByteArray} {b : Bool} {sz : Value} (h : St w M s p b sz Z) {cs : Array Value} (h2 : Blk w M 111 cs) : False := by
  obtain ⟨c, h1, _⟩ := h
  exact h1.ne_ h2 (by decide) rfl
theorem St.not69 {w : World} {M p Z : Nat} {s : ByteArray} {b : Bool} {sz : Value} (h : St w M s p b sz Z) {cs : Array Value} (h2 : Blk w M 69 cs) : False := by
  obtain ⟨c, h1, _⟩ := h
  exact h1.ne_ h2 (by decide) rfl
theorem BI.blk {w : World} {T : Nat} {neg : Bool} {x : Int} (h : BI w T neg x) : ∃ v, Blk w T 69 #[.bool neg, v] := by
  obtain ⟨v, h, _⟩ := h
  exact ⟨v, h⟩
theorem fn_neq (f : Nat) (w : World) : (binOp .neq 71 (.func (.func f) #[] #[]) .nilFunc).run Tryz.prog w = .ok (.bool true) w := by kernel_rfl
theorem nil_neq (w : World) : (binOp .neq 71 .nilFunc .nilFunc).run Tryz.prog w = .ok (.bool false) w := by kernel_rfl
theorem zc_size : (Tryz.zeroCells65.setIfInBounds 0 (.string sx)).size = 70 := by kernel_rfl
theorem csN_start (Z : Nat) : CsN 0 Z (Tryz.zeroCells65.setIfInBounds 0 (.string sx)) :=
  ⟨by kernel_rfl, by kernel_rfl, by kernel_rfl, by kernel_rfl, by kernel_rfl, fun k hk => by omega, by kernel_rfl⟩
set_option maxRecDepth 100000 in
set_option maxHeartbeats 4000000 in
theorem parse_sx (w : World) (a : Addr) (hw : 0 < w.heap.size) (hE : w.cell? ⟨0, 0, none⟩ = some (.iface 243 (.pointer (some a)))) (hL : w.cell? ⟨3, 0, none⟩ = some (.int .i64 8)) :
    Calls Tryz.prog 10 #[.string sx] w (ParseOut w) := by
  have hsz : sx.size = 7 := rfl
  have HE := Lib.hid hE
  have HL := Lib.hid hL
  clear hE hL
  have hfn := fn_neq
  have hnf := nil_neq
  go_enter Tryz.func10, Tryz.ntmps10
  go_wp2
  go_loopw [14] (fun i wr => MakeRel w i wr) (fun i _ => 65 - (intOf i).toNat)
  case atStart => exact ⟨0, _, by omega, rfl, Blk.new _ _ _, csN_start _, fun k hk => by omega, by simp, (Tch.refl _ _).alloc _⟩
  case round =>
    obtain ⟨n, cs, hn, rfl, hb, hc, hz, hs, ht⟩ := hrel
    have Hb := Lib.hid hb
    have Hc := Lib.hid hc
    have Hz := Lib.hid hz
    have Ht := Lib.hid ht
    have f4 := hb.frozen (4 + n)
    clear hb hc hz ht
    by_cases hlt : n < 65
    · obtain ⟨u, hu⟩ : ∃ u, cs[4 + n]? = some u := ⟨_, Array.getElem?_eq_getElem (by rw [Hc.out.size]; omega)⟩
      have hb1 := Hb.out.alloc (.cells #[.bool false, .slice none 0 0] 69)
      have c4 := (hb1.cell (4 + n)).trans hu
      have f4 := hb1.frozen (4 + n)
      have Hb1 := Lib.hid hb1
      clear hu hb1
      go_wp2
      go_roundw
      case rel =>
        refine ⟨n + 1, _, by omega, by go_num, Hb1.out.set_ (4 + n) _, Hc.out.more hlt, fun k hk => ?_, by simp; omega, (Ht.out.alloc _).setCell (fun h => by simp at h) _⟩
        by_cases e : k = n
        · subst e
          have hn := Blk.new wr 69 #[.bool false, .slice none 0 0]
          rw [hs] at hn
          exact hn.far (p := ⟨w.heap.size, 4 + k, none⟩) (fun e => by simp at e; omega) _
        · exact ((Hz.out k (by omega)).alloc _).far (p := ⟨w.heap.size, 4 + n, none⟩) (fun e => by simp at e; omega) _
      case measure => simp [intOf]; omega
    · have h65 : n = 65 := by omega
      subst h65
      have hst0 : St wr w.heap.size sx 0 false (.pointer none) (w.heap.size + 1) := ⟨cs, Hb.out, Hc.out.whole⟩
      have hp1 := begin_x wr w.heap.size (w.heap.size + 1) sx _ hst0 (by decide) (sx0 _)
      have Hp1 := Lib.hid hp1
      clear hst0 hp1
      go_wp2
      refine wp_loop_rounds 8 ?_
      rw [rounds_succ]
      go_wp2_with (go_at_call 28; refine Hp1.out.mono ?_)
      rintro e w1 ⟨rfl, hst1, ht1⟩
      have hp2 := first_x w1 w.heap.size (w.heap.size + 1) sx _ hst1 (by decide) (sx0 _)
      have Hp2 := Lib.hid hp2
      have hz1 : ∀ k, k < 65 → Blk w1 (w.heap.size + 1 + k) 69 #[.bool false, .slice none 0 0] := fun k hk => (Hz.out k hk).tch ht1 (fun e => by omega)
      have Hz1 := Lib.hid hz1
      have Ht1 := Lib.hid (Ht.out.trans ht1 (fun k hk e => by omega))
      have hs1 := ht1.size
      clear hst1 hp2 hz1 ht1
      go_wp2
      rw [rounds_succ]
      go_wp2_with (go_at_call 42; refine Hp2.out.mono ?_)
      rintro e w2 ⟨Y, ⟨rfl, hst2, ht2⟩, hY, hB⟩
      have hp3 := power_two w2 w.heap.size Y (w.heap.size + 1) hst2 ((Hz1.out 2 (by omega)).tch ht2 (fun e => by omega)) hB
      have Hp3 := Lib.hid hp3
      have hz2 : ∀ k, k < 65 → Blk w2 (w.heap.size + 1 + k) 69 #[.bool false, .slice none 0 0] := fun k hk => (Hz1.out k hk).tch ht2 (fun e => by omega)
      have Hz2 := Lib.hid hz2
      have Ht2 := Lib.hid (Ht1.out.trans ht2 (fun k hk e => by omega))
      have hs2 := ht2.size
      clear hst2 hp3 hz2 ht2 hB hY
      go_wp2
      rw [rounds_succ]
      go_wp2_with (go_at_call 63; refine Hp3.out.mono ?_)
      rintro e w3 ⟨rfl, hst3, hB3, ht3⟩
      have hp4 := next_minus w3 w.heap.size (w.heap.size + 1) _ hst3
      have Hp4 := Lib.hid hp4
      have hz3 : ∀ k, k < 65 → k ≠ 2 → Blk w3 (w.heap.size + 1 + k) 69 #[.bool false, .slice none 0 0] := fun k hk h2 => (Hz2.out k hk).tch ht3 (fun e => by rcases e with e | e <;> omega)
      have Hz3 := Lib.hid hz3
      have Ht3 := Lib.hid (Ht2.out.trans ht3 (fun k hk e => by rcases e with e | e <;> omega))
      have HB3 := Lib.hid hB3
      have Hst3 := Lib.hid hst3
      have hs3 := ht3.size
      clear hst3 hp4 hz3 ht3 hB3
      go_wp2
      rw [rounds_succ]
      go_wp2_with (go_at_call 78; refine Hp4.out.mono ?_)
      rintro e w4 ⟨rfl, hst4, ht4⟩
      have hB4 : BI w4 (w.heap.size + 1 + 2) false 1 := HB3.out.tch ht4 (fun e => by omega) (fun k hk e => by subst e; exact Hst3.out.not111 hk)
      have hz4 : ∀ k, k < 65 → k ≠ 2 → Blk w4 (w.heap.size + 1 + k) 69 #[.bool false, .slice none 0 0] := fun k hk h2 => (Hz3.out k hk h2).tch ht4 (fun e => by omega)
      have Ht4 := Lib.hid (Ht3.out.trans ht4 (fun k hk e => by omega))
      have hp5 := first_two_ w4 w.heap.size (w.heap.size + 1) _ a hst4 hw (Ht4.out.cell HE.out (fun e => e))
      have Hp5 := Lib.hid hp5
      have Hz4 := Lib.hid hz4
      have HB4 := Lib.hid hB4
      have Hst4 := Lib.hid hst4
      have hs4 := ht4.size
      clear hst4 hp5 hz4 ht4 hB4
      go_wp2
      rw [rounds_succ]
      go_wp2_with (go_at_call 42; refine Hp5.out.mono ?_)
      rintro e w5 ⟨Y2, ⟨rfl, hst5, ht5⟩, hY2, hC5⟩
      have hB5 : BI w5 (w.heap.size + 1 + 2) false 1 := HB4.out.tch ht5 (fun e => by omega) (fun k hk e => by subst e; exact Hst4.out.not111 hk)
      have hz5 : ∀ k, k < 65 → k ≠ 2 → Blk w5 (w.heap.size + 1 + k) 69 #[.bool false, .slice none 0 0] := fun k hk h2 => (Hz4.out k hk h2).tch ht5 (fun e => by omega)
      have Ht5 := Lib.hid (Ht4.out.trans ht5 (fun k hk e => by omega))
      have hp6 := behind_end w5 w.heap.size Y2 (w.heap.size + 1) hst5 (hz5 0 (by omega) (by omega)) hC5 (by omega)
      have Hp6 := Lib.hid hp6
      have Hz5 := Lib.hid hz5
      have HB5 := Lib.hid hB5
      have HC5 := Lib.hid hC5
      have Hst5 := Lib.hid hst5
      have hs5 := ht5.size
      clear hst5 hp6 hz5 ht5 hB5 hC5
      go_wp2
      rw [rounds_succ]
      go_wp2_with (go_at_call 61; refine Hp6.out.mono ?_)
      rintro e w6 ⟨rfl, hst6, hA6, ht6⟩
      have hB6 : BI w6 (w.heap.size + 1 + 2) false 1 := HB5.out.tch ht6 (fun e => by rcases e with e | e | e <;> omega) (fun k hk e => by
        rcases e with e | e | e
        · subst e; exact Hst5.out.not111 hk
        · subst e; obtain ⟨v, hv⟩ := HC5.out.blk; exact hv.ne_ hk (by decide) rfl
        · subst e; exact (Hz5.out 0 (by omega) (by omega)).ne_ hk (by decide) rfl)
      have hz6 : ∀ k, k < 65 → k ≠ 2 → k ≠ 0 → Blk w6 (w.heap.size + 1 + k) 69 #[.bool false, .slice none 0 0] := fun k hk h2 h0 => (Hz5.out k hk h2).tch ht6 (fun e => by rcases e with e | e | e <;> omega)
      have Ht6 := Lib.hid (Ht5.out.trans ht6 (fun k hk e => by rcases e with e | e | e <;> omega))
      have hp7 := next_end w6 w.heap.size (w.heap.size + 1) _ hst6
      have Hp7 := Lib.hid hp7
      have Hz6 := Lib.hid hz6
      have HA6 := Lib.hid hA6
      have HB6 := Lib.hid hB6
      have Hst6 := Lib.hid hst6
      have hs6 := ht6.size
      clear hst6 hp7 hz6 ht6 hB6 hA6
      go_wp2
      rw [rounds_succ]
      go_wp2_with (go_at_call 78; refine Hp7.out.mono ?_)
      rintro e w7 ⟨rfl, hst7, ht7⟩
      have hA7 : BI w7 (w.heap.size + 1) true 2 := HA6.out.tch ht7 (fun e => by omega) (fun k hk e => by subst e; exact Hst6.out.not111 hk)
      have hB7 : BI w7 (w.heap.size + 1 + 2) false 1 := HB6.out.tch ht7 (fun e => by omega) (fun k hk e => by subst e; exact Hst6.out.not111 hk)
      have hz7 : ∀ k, k < 65 → k ≠ 2 → k ≠ 0 → Blk w7 (w.heap.size + 1 + k) 69 #[.bool false, .slice none 0 0] := fun k hk h2 h0 => (Hz6.out k hk h2 h0).tch ht7 (fun e => by omega)
      have Ht7 := Lib.hid (Ht6.out.trans ht7 (fun k hk e => by omega))
      obtain ⟨cs7, hb7, hc7⟩ := hst7
      have c69 := (hb7.cell 69).trans hc7.c69
      have hT : Terms w7 w.heap.size (w.heap.size + 1) := ⟨fun k hk => (hb7.cell (4 + k)).trans (hc7.ts k hk), hA7, hz7 1 (by omega) (by omega) (by omega), hB7, fun k h3 hk => hz7 k hk (by omega) (by omega)⟩
      have ht3 := text_three w7 _ _ hT (Ht7.out.cell HL.out (fun e => e))
      have Htx := Lib.hid ht3
      clear hA7 hB7 hz7 hb7 hc7 hT ht3 ht7
      go_wp2
      rw [rounds_succ]
      go_wp2_with (go_at_call 29; refine Htx.out.mono ?_)
      rintro e w8 ⟨g, cap, rfl, hcap, hs8, ht8⟩
      have Hs8 := Lib.hid hs8
      have Ht8 := Lib.hid ht8
      clear hs8 ht8
      go_wp2
      go_returns
      exact ⟨g, cap, rfl, hcap, Hs8.out, Ht7.out.then Ht8.out⟩
end Go.Proofs.YtbblbolpcdkggaaGreatFmt
/-
  Walks: surdlaw29.awake: it returns true.
-/
namespace Go.Proofs.YtbblbolpcdkggaaGreatFmt
open Go.RowKit
theorem pr_tx : printRes (lists tx) = ([120, 94, 50, 32, 45, 32, 50], 0) := by kernel_rfl
def txCells : Array Value := #[.string ⟨#[45, 50]⟩, .string ⟨#[48]⟩, .string ⟨#[49]⟩]
theorem tx_strs (w : World) : Strs (w.alloc (.cells #[.string ⟨#[45, 50]⟩, .string ⟨#[48]⟩, .string ⟨#[49]⟩] 9)) w.heap.size tx := by
  intro j hj
  rw [(Blk.new w 9 #[.string ⟨#[45, 50]⟩, .string ⟨#[48]⟩, .string ⟨#[49]⟩]).cell]
  match j, hj with
  | 0, _ => rfl
  | 1, _ => rfl
  | 2, _ => rfl
theorem tx_sizes : ∀ s ∈ tx, s.size ≤ maxLen := by
  intro s hs
  simp only [tx, List.mem_cons, List.not_mem_nil, or_false] at hs
  rcases hs with rfl | rfl | rfl <;> (unfold maxLen; decide)
def PrintTx (w : World) (e : Ending) (w' : World) : Prop := e = .returned (.tuple #[.string ⟨#[120, 94, 50, 32, 45, 32, 50]⟩, .int .i64 0]) ∧ Tch Nil w w'
theorem print_tx (w : World) (a : Addr) (hE : w.cell? ⟨0, 0, none⟩ = some (.iface 243 (.pointer (some a)))) :
    Calls Tryz.prog 7 #[.slice (some ⟨w.heap.size, 0, none⟩) 3 3] (w.alloc (.cells #[.string ⟨#[45, 50]⟩, .string ⟨#[48]⟩, .string ⟨#[49]⟩] 9)) (PrintTx w) := by
  have ht : Tch Nil w (w.alloc (.cells #[.string ⟨#[45, 50]⟩, .string ⟨#[48]⟩, .string ⟨#[49]⟩] 9)) := (Tch.refl _ _).alloc _
  have h := print_any (w.alloc (.cells #[.string ⟨#[45, 50]⟩, .string ⟨#[48]⟩, .string ⟨#[49]⟩] 9)) w.heap.size 3 tx a (by simp) (tx_strs w) tx_sizes (by decide) (by decide) (ht.cell hE (fun e => e))
  rw [pr_tx] at h
  refine h.mono ?_
  rintro e w' ⟨rfl, hb⟩
  exact ⟨rfl, ht.then (Tch.of_whole hb)⟩
set_option maxRecDepth 100000 in
set_option maxHeartbeats 2000000 in
theorem awake_any (w : World) (a : Addr) (hw : 0 < w.heap.size) (hE : w.cell? ⟨0, 0, none⟩ = some (.iface 243 (.pointer (some a)))) (hL : w.cell? ⟨3, 0, none⟩ = some (.int .i64 8)) :
    Calls Tryz.prog 4 #[] w (TrueOut w) := by
  have hp := print_tx w a hE
  have Hp := Lib.hid hp
  have HE := Lib.hid hE
  have HL := Lib.hid hL
  clear hp hE hL
  go_enter Tryz.func4, Tryz.ntmps4
  go_wp2_with (go_at_call 7; refine Hp.out.mono ?_)
  rintro e w1 ⟨rfl, ht1⟩
  have hs1 := ht1.size
  have hq : Calls Tryz.prog 10 #[.string ⟨#[120, 94, 50, 32, 45, 32, 50]⟩] w1 (ParseOut w1) := parse_sx w1 a (by omega) (ht1.cell HE.out (fun e => e)) (ht1.cell HL.out (fun e => e))
  have Hq := Lib.hid hq
  have Ht1 := Lib.hid ht1
  clear hq ht1
  go_wp2_with (go_at_call 10; refine Hq.out.mono ?_)
  rintro e w2 ⟨g, cap, rfl, hcap, hst, ht2⟩
  have hst2 := hst.tch (S := Nil) ((Tch.refl Nil w2).alloc (.cells #[.string ⟨#[45, 50]⟩, .string ⟨#[48]⟩, .string ⟨#[49]⟩] 9)) (fun e => e)
  have hlit : StrsAt (w2.alloc (.cells #[.string ⟨#[45, 50]⟩, .string ⟨#[48]⟩, .string ⟨#[49]⟩] 9)) w2.heap.size 0 tx := fun j hj => by rw [Nat.zero_add]; exact tx_strs w2 j hj
  have hsm := sameTexts_eq _ g 0 cap w2.heap.size 0 3 3 tx rfl (by decide) hst2 hlit hcap (by omega)
  have Hsm := Lib.hid hsm
  have Ht2 := Lib.hid (Ht1.out.then ht2)
  clear hst hst2 hlit hsm ht2
  go_wp2_with (first
    | (go_at_call 9; refine (num_any _ _).mono ?_; rintro e w' ⟨rfl, hw⟩; obtain rfl := hw)
    | (go_at_call 11; refine Hsm.out.mono ?_; rintro e w3 ⟨rfl, ht3⟩))
  go_ret
  exact ⟨rfl, (Ht2.out.alloc _).then ht3⟩
end Go.Proofs.YtbblbolpcdkggaaGreatFmt
