/-
  Walks: surdlaw0's SameTexts, CopyTexts, LendTexts.
-/
import Derived.Test.YtbblbolpcdkggaaGreatFmtA6
import Derived.Lib.Builder
import Derived.Lib.AppendStr
import Derived.Lib.UnsafeStr
import Derived.Laws.Externs
import Derived.OpenShut
namespace Go.Proofs.YtbblbolpcdkggaaGreatFmt
open Go.RowKit
def RetB (w : World) (b : Bool) (e : Ending) (w' : World) : Prop := e = .returned (.bool b) ∧ Tch Nil w w'
set_option maxRecDepth 100000 in
set_option maxHeartbeats 1000000 in
theorem sameTexts_none (w : World) (A B : Option Addr) (c d : Nat) : Calls Tryz.prog 11 #[.slice A 0 c, .slice B 0 d] w (RetB w true) := by
  go_enter Tryz.func11, Tryz.ntmps11
  go_wp2
  go_rounds 1
  go_ret
  exact ⟨rfl, Tch.refl _ _⟩
def SameRel (w : World) (n : Nat) (i : Value) (wr : World) : Prop := ∃ (k : Nat), k ≤ n ∧ i = .int .i64 k ∧ Tch Nil w wr
set_option maxRecDepth 100000 in
set_option maxHeartbeats 1000000 in
theorem sameTexts_eq (w : World) (g o c b off d n : Nat) (ss : List ByteArray) (hn : ss.length = n) (hlen : n ≤ 9223372036854775807) (h1 : StrsAt w g o ss) (h2 : StrsAt w b off ss) (_hc : n ≤ c) (_hd : n ≤ d) :
    Calls Tryz.prog 11 #[.slice (some ⟨g, o, none⟩) n c, .slice (some ⟨b, off, none⟩) n d] w (RetB w true) := by
  have H1 := Lib.hid h1; clear h1
  have H2 := Lib.hid h2; clear h2
  have Hn := Lib.hid hn; clear hn
  have hb0 : ((n : Int) != (n : Int)) = false := by simp
  go_enter Tryz.func11, Tryz.ntmps11
  go_wp2
  go_loopw [5] (fun i wr => SameRel w n i wr) (fun i _ => n - (intOf i).toNat)
  case atStart => exact ⟨0, Nat.zero_le _, rfl, Tch.refl _ _⟩
  case round =>
    obtain ⟨k, hk, rfl, ht⟩ := hrel
    have Ht := Lib.hid ht; clear ht
    by_cases hlt : k < n
    · have hl : k < ss.length := by rw [Hn.out]; exact hlt
      have c1 := (H1.out.tch Ht.out (fun e => e)) k hl
      have c2 := (H2.out.tch Ht.out (fun e => e)) k hl
      generalize ss[k] = s at *
      clear hl
      go_wp2
      go_quiet (fail)
      go_wp2
      go_roundw
      case rel => exact ⟨k + 1, by omega, by go_num, Ht.out.drewN _⟩
      case measure => simp [intOf]; omega
    · go_wp2
      go_ret
      exact ⟨rfl, Ht.out⟩
theorem addr_add (b off j : Nat) : (⟨b, off, none⟩ : Addr).add j = ⟨b, off + j, none⟩ := by
  unfold Addr.add; split
  · rename_i h; subst h; rfl
  · rfl
def s77 : Value := .string ⟨#[45, 55, 55]⟩
def strs (ss : List ByteArray) : List Value := ss.map Value.string
/-- What copying leaves: a row of the call's own with these texts. -/
def CopyOut (w : World) (ss : List ByteArray) (e : Ending) (w' : World) : Prop := ∃ v, e = .returned v ∧ w'.ownsRow w.heap.size 9 1 v ss.length (strs ss) ∧ Tch Nil w w'
set_option maxHeartbeats 1000000 in
theorem copyTexts_any (w : World) (g off cap : Nat) (ss : List ByteArray) (hst : StrsAt w g off ss) (hn : ss.length * 16 ≤ 140737488355328) :
    Calls Tryz.prog 19 #[.slice (some ⟨g, off, none⟩) ss.length cap] w (CopyOut w ss) := by
  have info9 : (Tryz.prog.info? 9).map (fun i => (i.zero, i.size, i.bytes)) = some (some (.string ⟨#[]⟩), 1, 16) := by kernel_rfl
  obtain ⟨i0, hi, hz0, hz1, hz2⟩ := info_parts info9
  clear info9
  have ht0 : Tch Nil w (w.alloc (.cells #[] 9)) := (Tch.refl _ _).alloc _
  have Hst := Lib.hid hst; clear hst
  have Ht0 := Lib.hid ht0; clear ht0
  go_enter Tryz.func19, Tryz.ntmps19
  go_wp2_with (at_builtin; refine wpList_append_own _ rfl _ _ 22 rfl w.heap.size 9 i0 (.string ⟨#[]⟩) 1 16 Tryz.underlying22 hi hz0 hz1 hz2 rfl (by decide) _ 0 [] rfl (World.ownsRow_made w #[] 0 (Nat.le_refl _) (Nat.zero_le _) rfl) ⟨g, off, none⟩ ss.length cap (strs ss) rfl ?c0 ?c1 ?c2 ?c3 ?c4 ?c5 ?_)
  case c0 => simp [strs]
  case c1 =>
    intro j u hu
    unfold strs at hu
    rw [List.getElem?_map, Option.map_eq_some_iff] at hu
    obtain ⟨s, hs, rfl⟩ := hu
    obtain ⟨hj, rfl⟩ := List.getElem?_eq_some_iff.1 hs
    rw [addr_add]
    exact (Ht0.out.cell (Hst.out j hj) (fun e => e))
  case c2 => intro u hu; unfold strs at hu; obtain ⟨s, _, rfl⟩ := List.mem_map.1 hu; rfl
  case c3 => unfold maxLen; omega
  case c4 => omega
  case c5 => simp
  intro v' w4 hown4 hgrow4 _
  have htt : Tch Nil w w4 := ((Tch.refl _ _).alloc _).trans (Tch.grown hgrow4) (fun k hk e => by injection e with e; simp at e; omega)
  clear hgrow4
  go_wp2
  go_ret
  exact ⟨v', rfl, hown4, htt⟩
set_option maxHeartbeats 1000000 in
theorem copyTexts_nil (w : World) (cap : Nat) :
    Calls Tryz.prog 19 #[.slice none 0 cap] w (CopyOut w []) := by
  go_enter Tryz.func19, Tryz.ntmps19
  go_wp2
  go_ret
  exact ⟨_, rfl, World.ownsRow_made w #[] 0 (Nat.le_refl _) (Nat.zero_le _) rfl, (Tch.refl _ _).alloc _⟩
end Go.Proofs.YtbblbolpcdkggaaGreatFmt
/-
  Walks: surdlaw0's LendTexts, SpoilTexts, KeptTexts.
-/
namespace Go.Proofs.YtbblbolpcdkggaaGreatFmt
open Go.RowKit
/-- A slice of texts that the call itself made, as CopyTexts takes it. -/
def SliceOf (w : World) (v : Value) (ss : List ByteArray) : Prop := (ss = [] ∧ v = .slice none 0 0) ∨ ∃ b off cap, v = .slice (some ⟨b, off, none⟩) ss.length cap ∧ StrsAt w b off ss ∧ ss.length ≤ cap ∧ b < w.heap.size
theorem copyTexts_all (w : World) (v : Value) (ss : List ByteArray) (h : SliceOf w v ss) (hn : ss.length * 16 ≤ 140737488355328) : Calls Tryz.prog 19 #[v] w (CopyOut w ss) := by
  rcases h with ⟨rfl, rfl⟩ | ⟨b, off, cap, rfl, hst, hc⟩
  · exact copyTexts_nil w 0
  · exact copyTexts_any w b off cap ss hst hn
/-- What LendTexts hands out: a block of the call's own: the texts, two marks, whatever room there is behind. -/
def Lent (w : World) (base : Nat) (ss : List ByteArray) (v : Value) : Prop :=
  ∃ g cs, v = .slice (some ⟨g, 0, none⟩) ss.length cs.size ∧ base ≤ g ∧ Blk w g 9 cs ∧ cs.size ≤ maxLen ∧ ∃ rest, cs.toList = strs ss ++ [s77, s77] ++ rest
def LentOut (w : World) (ss : List ByteArray) (e : Ending) (w' : World) : Prop := ∃ v, e = .returned v ∧ Lent w' w.heap.size ss v ∧ Tch Nil w w'
theorem lent_of {w : World} {base n : Nat} {ss : List ByteArray} {v : Value} (hn : n = ss.length + 2) (h : w.ownsRow base 9 1 v n (strs ss ++ [s77, s77])) :
    ∃ g cs, v = .slice (some ⟨g, 0, none⟩) (ss.length + 2) cs.size ∧ base ≤ g ∧ Blk w g 9 cs ∧ cs.size ≤ maxLen ∧ ss.length + 2 ≤ cs.size ∧ ∃ rest, cs.toList = strs ss ++ [s77, s77] ++ rest := by
  subst hn
  rcases h.2 with ⟨_, h⟩ | ⟨g, cap, cur, rfl, h1, h2, h3, h4, h5, h6⟩
  · omega
  · rw [Nat.mul_one] at h5 h6
    subst h5
    refine ⟨g, cur, rfl, h1, h2, h4, h3, cur.toList.drop (ss.length + 2), ?_⟩
    rw [← h6, List.take_append_drop]
set_option maxHeartbeats 1000000 in
theorem lendTexts_any (w : World) (v : Value) (ss : List ByteArray) (h : SliceOf w v ss) (hn : ss.length * 16 ≤ 140737488351232) : Calls Tryz.prog 6 #[v] w (LentOut w ss) := by
  have info9 : (Tryz.prog.info? 9).map (fun i => (i.zero, i.size, i.bytes)) = some (some (.string ⟨#[]⟩), 1, 16) := by kernel_rfl
  obtain ⟨i0, hi, hz0, hz1, hz2⟩ := info_parts info9
  clear info9
  have H := Lib.hid h; clear h
  go_enter Tryz.func6, Tryz.ntmps6
  go_wp2_with fail
  refine (copyTexts_all w v ss H.out (by omega)).mono ?_
  rintro e w1 ⟨v1, rfl, hown1, ht1⟩
  have hz1' := ht1.size
  have Hown1 := Lib.hid hown1; clear hown1
  have Ht1 := Lib.hid ht1; clear ht1
  go_wp2_with (at_builtin; refine wpList_append_own _ rfl _ _ 22 rfl w.heap.size 9 i0 (.string ⟨#[]⟩) 1 16 Tryz.underlying22 hi hz0 hz1 hz2 rfl (by decide) _ ss.length (strs ss) rfl (Hown1.out.alloc _) ⟨w1.heap.size, 0, none⟩ 2 2 [s77, s77] rfl rfl ?c1 ?c2 ?c3 ?c4 ?c5 ?_)
  case c1 =>
    intro j u hu
    rw [addr_add, Nat.zero_add, (Blk.new _ _ _).cell]
    have e : (#[s77, s77] : Array Value)[j]? = [s77, s77][j]? := by rw [← Array.getElem?_toList]
    exact e.trans hu
  case c2 => intro u hu; simp at hu; subst hu; rfl
  case c3 => unfold maxLen; omega
  case c4 => omega
  case c5 => simp; omega
  intro v' w4 hown4 hgrow4 _
  have htt : Tch Nil w w4 := (Ht1.out.alloc _).trans (Tch.grown hgrow4) (fun k hk e => by have h := (Hown1.out.lt k e.symm).1; omega)
  clear hgrow4
  obtain ⟨g, cs, rfl, hg, hb, hm, h2, hrest⟩ := lent_of rfl hown4
  have Hr := Lib.hid hrest; clear hrest
  have Hb := Lib.hid hb; clear hb
  have Hm := Lib.hid hm
  unfold maxLen at hm
  clear hown4
  rcases H.out with ⟨rfl, rfl⟩ | ⟨b, off, cap, rfl, hst, hc, hbl⟩
  · go_wp2
    go_ret
    exact ⟨_, rfl, ⟨g, cs, rfl, hg, Hb.out, Hm.out, Hr.out⟩, htt⟩
  · have Hst := Lib.hid hst; clear hst
    go_wp2
    go_ret
    exact ⟨_, rfl, ⟨g, cs, rfl, hg, Hb.out, Hm.out, Hr.out⟩, htt⟩
def SpoilRel (w : World) (g n : Nat) (i : Value) (wr : World) : Prop := ∃ (k : Nat) (cs : Array Value), k ≤ n ∧ i = .int .i64 k ∧ Blk wr g 9 cs ∧ cs.size = n ∧ Tch (· = g) w wr
def SpoilOut (w : World) (g : Nat) (e : Ending) (w' : World) : Prop := e = .returned (.tuple #[]) ∧ Tch (· = g) w w'
set_option maxHeartbeats 1000000 in
theorem spoilTexts_any (w : World) (g m : Nat) (cs : Array Value) (hb : Blk w g 9 cs) (_hm : m ≤ cs.size) (hsz : cs.size ≤ maxLen) :
    Calls Tryz.prog 27 #[.slice (some ⟨g, 0, none⟩) m cs.size] w (SpoilOut w g) := by
  unfold maxLen at hsz
  generalize hn : cs.size = n at *
  have Hn := Lib.hid hn; clear hn
  have Hb := Lib.hid hb; clear hb
  go_enter Tryz.func27, Tryz.ntmps27
  go_wp2
  go_loopw [3] (fun i wr => SpoilRel w g n i wr) (fun i _ => n - (intOf i).toNat)
  case atStart => exact ⟨0, cs, Nat.zero_le _, rfl, Hb.out, Hn.out, Tch.refl _ _⟩
  case round =>
    obtain ⟨k, a, hk, rfl, ha, hs, ht⟩ := hrel
    have Hs := Lib.hid hs
    have Ht := Lib.hid ht; clear ht
    by_cases hlt : k < n
    · have hc : wr.cell? ⟨g, k, none⟩ = some (a[k]'(by omega)) := (ha.cell k).trans (Array.getElem?_eq_getElem (by omega))
      have hf := ha.frozen k
      generalize a[k]'(by omega) = u at hc
      clear hs
      have Ha := Lib.hid ha; clear ha
      go_wp2
      go_roundw
      case rel => exact ⟨k + 1, _, by omega, by go_num, Ha.out.set_ k _, by simpa using Hs.out, Ht.out.setCell (fun _ => rfl) _⟩
      case measure => simp [intOf]; omega
    · clear hs
      go_wp2
      go_end0
      exact ⟨rfl, Ht.out⟩
theorem sameTexts_all (w : World) (g o c : Nat) (v : Value) (ss : List ByteArray) (h : SliceOf w v ss) (h1 : StrsAt w g o ss) (hlen : ss.length ≤ 9223372036854775807) (hc : ss.length ≤ c) :
    Calls Tryz.prog 11 #[.slice (some ⟨g, o, none⟩) ss.length c, v] w (RetB w true) := by
  rcases h with ⟨rfl, rfl⟩ | ⟨b, off, cap, rfl, hst, hcap, _⟩
  · exact sameTexts_none w _ _ _ _
  · exact sameTexts_eq w g o c b off cap ss.length ss rfl hlen h1 hst hc hcap
def b77 : ByteArray := ⟨#[45, 55, 55]⟩
theorem lent_cells {w : World} {g : Nat} {cs : Array Value} {ss : List ByteArray} {rest : List Value} (hb : Blk w g 9 cs) (hr : cs.toList = strs ss ++ [s77, s77] ++ rest) :
    StrsAt w g 0 ss ∧ StrsAt w g ss.length [b77, b77] ∧ ss.length + 2 ≤ cs.size := by
  have hl : (strs ss).length = ss.length := by simp [strs]
  have key : ∀ i, w.cell? ⟨g, i, none⟩ = (strs ss ++ [s77, s77] ++ rest)[i]? := fun i => by rw [hb.cell, ← Array.getElem?_toList, hr]
  refine ⟨fun j hj => ?_, fun j hj => ?_, ?_⟩
  · rw [Nat.zero_add, key, List.append_assoc, List.getElem?_append_left (by omega)]
    unfold strs
    rw [List.getElem?_map, List.getElem?_eq_getElem hj]; rfl
  · rw [key, List.append_assoc, List.getElem?_append_right (by omega), hl, Nat.add_sub_cancel_left]
    have hj2 : j < 2 := hj
    have : j = 0 ∨ j = 1 := by omega
    rcases this with rfl | rfl <;> rfl
  · have := congrArg List.length hr
    rw [Array.length_toList] at this
    simp [hl] at this; omega
def KeptOut (w : World) (g : Nat) (e : Ending) (w' : World) : Prop := e = .returned (.bool true) ∧ Tch (· = g) w w'
set_option maxHeartbeats 1000000 in
theorem keptTexts_any (w : World) (g : Nat) (cs : Array Value) (v : Value) (ss : List ByteArray) (h : SliceOf w v ss) (hb : Blk w g 9 cs) (hsz : cs.size ≤ maxLen)
    (rest : List Value) (hr : cs.toList = strs ss ++ [s77, s77] ++ rest) :
    Calls Tryz.prog 8 #[.slice (some ⟨g, 0, none⟩) ss.length cs.size, v] w (KeptOut w g) := by
  obtain ⟨k1, k2, k3⟩ := lent_cells hb hr
  have hszz := hsz
  unfold maxLen at hszz
  have Hsz := Lib.hid hsz; clear hsz
  have K1 := Lib.hid k1; clear k1
  have K2 := Lib.hid k2; clear k2
  have Hb := Lib.hid hb; clear hb hr
  have H := Lib.hid h; clear h
  have hgl := Hb.out.lt
  go_enter Tryz.func8, Tryz.ntmps8
  go_wp2_with fail
  refine (sameTexts_all w g 0 cs.size v ss H.out K1.out (by omega) (by omega)).mono ?_
  rintro e w1 ⟨rfl, ht1⟩
  have Ht1 := Lib.hid ht1; clear ht1
  have hne : ¬ cs.size = ss.length := by omega
  have hlv : ∃ A c, v = .slice A ss.length c := by
    rcases H.out with ⟨rfl, rfl⟩ | ⟨b, off, cap, rfl, _⟩
    · exact ⟨_, _, rfl⟩
    · exact ⟨_, _, rfl⟩
  obtain ⟨A, c, rfl⟩ := hlv
  go_wp2_with fail
  refine (sameTexts_eq _ g ss.length (cs.size - ss.length) w1.heap.size 0 2 2 [b77, b77] rfl (by omega) ((K2.out.tch Ht1.out (fun e => e)).tch ((Tch.refl Nil _).alloc _) (fun e => e)) ?h2 (by omega) (by omega)).mono ?_
  case h2 =>
    intro j hj
    rw [Nat.zero_add, (Blk.new _ _ _).cell]
    have hj2 : j < 2 := hj
    have : j = 0 ∨ j = 1 := by omega
    rcases this with rfl | rfl <;> rfl
  rintro e w2 ⟨rfl, ht2⟩
  have Htt := Lib.hid ((Ht1.out.alloc _).then ht2)
  clear ht2
  go_wp2_with fail
  refine (spoilTexts_any _ g (ss.length + 2) cs (Hb.out.tch Htt.out (fun e => e)) k3 Hsz.out).mono ?_
  rintro e w3 ⟨rfl, ht3⟩
  have Ht3 := Lib.hid ht3; clear ht3
  go_wp2
  go_ret
  exact ⟨rfl, (Htt.out.nil _).then Ht3.out⟩
end Go.Proofs.YtbblbolpcdkggaaGreatFmt
/-
  Walks: strings.Builder: copyCheck, WriteByte, WriteString, over a builder of the call's own.
-/
namespace Go.Proofs.YtbblbolpcdkggaaGreatFmt
open Go.RowKit
theorem size52 : (Tryz.prog.info? 52).map (·.size) = some 2 := by kernel_rfl
theorem lies52 : liesAt Tryz.prog Tryz.prog.depth 52 (2 / Tryz.prog.cellsOf 52) 0 52 1 = true := by kernel_rfl
theorem info5 : (Tryz.prog.info? 5).map (fun i => (i.zero, i.size, i.bytes)) = some (some (.int .u8 0), 1, 1) := by kernel_rfl
set_option maxRecDepth 100000 in
set_option maxHeartbeats 1000000 in
theorem copyCheck_used (b : Nat) (w : World) (h0 : w.cell? ⟨b, 0, none⟩ = some (.pointer (some ⟨b, 0, none⟩))) :
    Calls Tryz.prog 39 #[.pointer (some ⟨b, 0, none⟩)] w fun e w' => e = .returned (.tuple #[]) ∧ w = w' := by
  obtain ⟨j, hj, _⟩ := Option.map_eq_some_iff.1 size52
  go_enter Tryz.func39, Tryz.ntmps39
  go_wp2
  rw [Lib.run_neq_ptr_same w _ Tryz.underlying49 hj]
  go_wp2
  go_end0
  exact ⟨rfl, rfl⟩
set_option maxRecDepth 100000 in
set_option maxHeartbeats 1000000 in
theorem copyCheck_fresh (b : Nat) (w : World) (h0 : w.cell? ⟨b, 0, none⟩ = some (.pointer none)) (hsh : w.shape? b = some (52, 2)) (hfz : w.frozen? ⟨b, 0, none⟩ = false) :
    Calls Tryz.prog 39 #[.pointer (some ⟨b, 0, none⟩)] w fun e w' => e = .returned (.tuple #[]) ∧ w' = w.setCell ⟨b, 0, none⟩ (.pointer (some ⟨b, 0, none⟩)) := by
  obtain ⟨j, hj, hjs⟩ := Option.map_eq_some_iff.1 size52
  have Hjs := Lib.hid hjs
  go_enter Tryz.func39, Tryz.ntmps39
  go_wp2
  rw [Lib.run_to_unsafe w ⟨b, 0, none⟩ Tryz.underlying49 Tryz.underlying98 hj (by rw [Hjs.out]; decide) hsh (Nat.zero_lt_succ 1)]
  simp only [Result.andThen]
  rw [Oper.upon_value]
  go_wp2
  rw [run_callFunc_extern Tryz.func54 (by kernel_rfl) (by kernel_rfl) (by kernel_rfl) (e := Extern.AbiNoEscape.same) (by kernel_rfl)]
  rw [Lib.run_noEscape]
  simp only [Result.andThen]
  rw [Oper.upon_value]
  go_wp2
  rw [Lib.run_from_unsafe w ⟨b, 0, none⟩ Tryz.underlying98 Tryz.underlying49 hj hsh lies52]
  simp only [Result.andThen]
  rw [Oper.upon_value]
  go_wp2
  go_end0
  exact ⟨rfl, rfl⟩
theorem copyCheck_any (B b : Nat) (bs : List Value) (w : World) (h : Lib.IsBuilder 52 5 B b bs w) :
    Calls Tryz.prog 39 #[.pointer (some ⟨b, 0, none⟩)] w fun e w' => e = .returned (.tuple #[]) ∧ (Lib.BuilderAt 52 5 B b (.pointer (some ⟨b, 0, none⟩)) bs w' ∧ Below B w w') := by
  rcases h with h | h
  · refine (copyCheck_fresh b w h.cell0 h.shape h.frozen0).mono ?_
    rintro e w' ⟨rfl, rfl⟩
    exact ⟨rfl, h.used _, (Below.refl B w).setCell (p := ⟨b, 0, none⟩) h.1 _⟩
  · refine (copyCheck_used b w h.cell0).mono ?_
    rintro e w' ⟨rfl, rfl⟩
    exact ⟨rfl, h, Below.refl B _⟩
theorem own_slice {w : World} {base n : Nat} {e : TypeId} {size : Nat} {v : Value} {xs : List Value} (h : w.ownsRow base e size v n xs) : ∃ A c, v = .slice A n c := by
  rcases h.2 with ⟨rfl, rfl⟩ | ⟨g, cap, cur, rfl, _⟩
  · exact ⟨_, _, rfl⟩
  · exact ⟨_, _, rfl⟩
def BldOut (B b : Nat) (bs : List Value) (r : Ending) (w : World) (e : Ending) (w' : World) : Prop := e = r ∧ Lib.BuilderAt 52 5 B b (.pointer (some ⟨b, 0, none⟩)) bs w' ∧ Below B w w'
set_option maxHeartbeats 1000000 in
theorem writeByte_any (B b : Nat) (bs : List Value) (c : Int) (w : World) (h : Lib.IsBuilder 52 5 B b bs w) (hlen : bs.length + 1 ≤ 140737488355328) (hBw : B ≤ w.heap.size) :
    Calls Tryz.prog 23 #[.pointer (some ⟨b, 0, none⟩), .int .u8 c] w (BldOut B b (bs ++ [.int .u8 c]) (.returned .nilIface) w) := by
  obtain ⟨i0, hi, hz0, hz1, hz2⟩ := info_parts info5
  have H := Lib.hid h; clear h
  go_enter Tryz.func23, Tryz.ntmps23
  go_wp2_with fail
  refine (copyCheck_any B b bs w H.out).mono ?_
  rintro e w1 ⟨rfl, h1, hb1⟩
  obtain ⟨hB, v, hbk, hown, hne⟩ := h1
  have c0 : w1.cell? ⟨b, 0, none⟩ = some (.pointer (some ⟨b, 0, none⟩)) := by rw [Lib.cell_of_heap hbk]; rfl
  have c1 : w1.cell? ⟨b, 1, none⟩ = some v := by rw [Lib.cell_of_heap hbk]; rfl
  have hz1' := hb1.size
  have Hown := Lib.hid hown; clear hown
  have Hbk := Lib.hid hbk; clear hbk
  have Hb1 := Lib.hid hb1; clear hb1
  have Hne := Lib.hid hne; clear hne
  go_wp2_with (at_builtin; refine wpList_append_own _ rfl _ _ 50 rfl B 5 i0 (.int .u8 0) 1 1 Tryz.underlying50 hi hz0 hz1 hz2 rfl (by decide) _ bs.length bs rfl (Hown.out.alloc _) ⟨w1.heap.size, 0, none⟩ 1 1 [.int .u8 c] rfl rfl ?c1 ?c2 ?c3 ?c4 ?c5 ?_)
  case c1 => exact cell_one_new _ _ _
  case c2 => intro u hu; simp at hu; subst hu; rfl
  case c3 => unfold maxLen; omega
  case c4 => omega
  case c5 => simp; omega
  intro v' w2 hown2 hgrow2 _
  have hbk2 : w2.heap[b]? = some (.cells #[.pointer (some ⟨b, 0, none⟩), v] 52 (0, 0)) := by
    have hlt : b < w1.heap.size := Lib.BuilderAt.lt ⟨hB, v, Hbk.out, Hown.out, Hne.out⟩
    exact (hgrow2.block b (by simp; omega) (fun e => Hne.out e.symm)).trans ((Below.heap_alloc w1 _ b hlt).trans Hbk.out)
  have hbelow : ∀ u, Below B w (w2.setCell ⟨b, 1, none⟩ u) := fun u =>
    ((Hb1.out.alloc (by omega) _).grown hgrow2 (by simp; omega) (fun k hk => (Hown.out.lt k hk).1)).setCell (p := ⟨b, 1, none⟩) hB u
  have hput : Lib.BuilderAt 52 5 B b (.pointer (some ⟨b, 0, none⟩)) (bs ++ [.int .u8 c]) (w2.setCell ⟨b, 1, none⟩ v') :=
    Lib.BuilderAt.put hB hbk2 (by rw [List.length_append]; exact hown2) (by decide)
  obtain ⟨A, cap, rfl⟩ := own_slice hown2
  have d1 : w2.cell? ⟨b, 1, none⟩ = some v := by rw [Lib.cell_of_heap hbk2]; rfl
  have df := Lib.frozen_of_heap hbk2 1
  have Hput := Lib.hid hput; clear hput
  have Hbelow := Lib.hid hbelow; clear hbelow
  clear hown2 hgrow2 hbk2 c0 c1
  go_wp2
  go_ret
  exact ⟨rfl, Hput.out, Hbelow.out _⟩
theorem strCells_bytes (s : ByteArray) : Lib.strCells s = Lib.byteCells s.data.toList := rfl
set_option maxHeartbeats 1000000 in
theorem writeString_any (B b : Nat) (bs : List Value) (s : ByteArray) (w : World) (h : Lib.IsBuilder 52 5 B b bs w) (hlen : bs.length + s.size ≤ 140737488355328) (hBw : B ≤ w.heap.size) :
    Calls Tryz.prog 24 #[.pointer (some ⟨b, 0, none⟩), .string s] w (BldOut B b (bs ++ Lib.byteCells s.data.toList) (.returned (.tuple #[.int .i64 s.size, .nilIface])) w) := by
  obtain ⟨i0, hi, hz0, hz1, hz2⟩ := info_parts info5
  have H := Lib.hid h; clear h
  have hs63 : s.size ≤ 9223372036854775807 := by omega
  go_enter Tryz.func24, Tryz.ntmps24
  go_wp2_with fail
  refine (copyCheck_any B b bs w H.out).mono ?_
  rintro e w1 ⟨rfl, h1, hb1⟩
  obtain ⟨hB, v, hbk, hown, hne⟩ := h1
  have c0 : w1.cell? ⟨b, 0, none⟩ = some (.pointer (some ⟨b, 0, none⟩)) := by rw [Lib.cell_of_heap hbk]; rfl
  have c1 : w1.cell? ⟨b, 1, none⟩ = some v := by rw [Lib.cell_of_heap hbk]; rfl
  have hz1' := hb1.size
  have Hown := Lib.hid hown; clear hown
  have Hbk := Lib.hid hbk; clear hbk
  have Hb1 := Lib.hid hb1; clear hb1
  have Hne := Lib.hid hne; clear hne
  go_wp2_with (at_builtin; refine Lib.wpList_append_own_string _ rfl _ _ 50 9 rfl B 5 i0 Tryz.underlying50 Tryz.underlying9 hi hz0 hz1 hz2 _ bs.length bs rfl Hown.out s rfl ?c3 ?c4 ?c5 ?_)
  case c3 => unfold maxLen; omega
  case c4 => omega
  case c5 => omega
  intro v' w2 hown2 hgrow2 _
  rw [strCells_bytes] at hown2
  have hbk2 : w2.heap[b]? = some (.cells #[.pointer (some ⟨b, 0, none⟩), v] 52 (0, 0)) := by
    have hlt : b < w1.heap.size := Lib.BuilderAt.lt ⟨hB, v, Hbk.out, Hown.out, Hne.out⟩
    exact (hgrow2.block b hlt (fun e => Hne.out e.symm)).trans Hbk.out
  have hbelow : ∀ u, Below B w (w2.setCell ⟨b, 1, none⟩ u) := fun u =>
    (Hb1.out.grown hgrow2 (by omega) (fun k hk => (Hown.out.lt k hk).1)).setCell (p := ⟨b, 1, none⟩) hB u
  have hput : Lib.BuilderAt 52 5 B b (.pointer (some ⟨b, 0, none⟩)) (bs ++ Lib.byteCells s.data.toList) (w2.setCell ⟨b, 1, none⟩ v') :=
    Lib.BuilderAt.put hB hbk2 (by rw [List.length_append, ← strCells_bytes, Lib.strCells_length]; exact hown2) (by decide)
  obtain ⟨A, cap, rfl⟩ := own_slice hown2
  have d1 : w2.cell? ⟨b, 1, none⟩ = some v := by rw [Lib.cell_of_heap hbk2]; rfl
  have df := Lib.frozen_of_heap hbk2 1
  have Hput := Lib.hid hput; clear hput
  have Hbelow := Lib.hid hbelow; clear hbelow
  clear hown2 hgrow2 hbk2 c0 c1
  go_wp2
  go_ret2
  exact ⟨rfl, Hput.out, Hbelow.out _⟩
end Go.Proofs.YtbblbolpcdkggaaGreatFmt
