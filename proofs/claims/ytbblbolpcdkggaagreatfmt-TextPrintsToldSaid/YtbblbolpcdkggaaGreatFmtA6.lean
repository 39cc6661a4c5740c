/-
  Walks: exact.Int.
-/
import Derived.Test.YtbblbolpcdkggaaGreatFmtA5
import Derived.OwnWalk
import Derived.Laws.AppendOwn
namespace Go.Proofs.YtbblbolpcdkggaaGreatFmt
open Go.RowKit
theorem isDig_bounds {c : UInt8} (h : Tp.isDig c = true) : 48 ≤ (c.toNat : Int) ∧ (c.toNat : Int) ≤ 57 := by
  rw [Tp.isDig_iff] at h; simpa using h
theorem get_data (s : ByteArray) (k : Nat) (h : k < s.size) : s.data.toList[k]? = some s[k] := by
  rw [List.getElem?_eq_getElem (by rw [Tp.len_data]; exact h)]; rfl
theorem formed_scans (s : ByteArray) (hf : Tp.formed s.data.toList = true) (hl : (Tp.bare s.data.toList).length ≤ 20000) : Scans s := by
  have hlen := Tp.len_data s
  unfold Tp.formed at hf
  rw [Bool.or_eq_true] at hf
  rcases hf with h0 | h1
  · have e : s.data.toList = [48] := by simpa using h0
    have h1 : s.size = 1 := by rw [← hlen, e]; rfl
    refine ⟨by omega, by omega, .inl fun k hk _ => ?_⟩
    have hk0 : k = 0 := by omega
    subst hk0
    have hg := get_data s 0 hk
    rw [e] at hg
    injection hg with hg
    rw [← hg]; decide
  · rw [Bool.and_eq_true] at h1
    obtain ⟨hall, hlead⟩ := h1
    by_cases hh : s.data.toList.head? = some 45
    · have hb : Tp.bare s.data.toList = s.data.toList.tail := by unfold Tp.bare; rw [if_pos hh]
      rw [hb] at hall hlead hl
      have hpos : 0 < s.size := by
        rcases Nat.eq_zero_or_pos s.size with h | h
        · have : s.data.toList = [] := List.eq_nil_of_length_eq_zero (by omega)
          rw [this] at hh; cases hh
        · exact h
      have ht : s.data.toList.tail.length = s.size - 1 := by rw [List.length_tail, hlen]
      have h1 : 1 < s.size := by
        rcases Nat.lt_or_ge 1 s.size with h | h
        · exact h
        · have : s.data.toList.tail = [] := List.eq_nil_of_length_eq_zero (by omega)
          rw [this] at hlead; cases hlead
      refine ⟨hpos, by omega, .inr ⟨hpos, ?_, h1, fun k hk h1k => ?_⟩⟩
      · rw [Tp.head_data s hpos] at hh; injection hh with hh; rw [hh]; rfl
      · obtain ⟨j, rfl⟩ : ∃ j, k = j + 1 := ⟨k - 1, by omega⟩
        have hg := get_data s (j + 1) hk
        have hm : s[j + 1] ∈ s.data.toList.tail := by
          have : s.data.toList.tail[j]? = some s[j + 1] := by rw [List.getElem?_tail]; exact hg
          exact List.mem_of_getElem? this
        exact isDig_bounds (List.all_eq_true.1 hall _ hm)
    · have hb : Tp.bare s.data.toList = s.data.toList := by unfold Tp.bare; rw [if_neg hh]
      rw [hb] at hall hlead hl
      have hpos : 0 < s.size := by
        rcases Nat.eq_zero_or_pos s.size with h | h
        · have : s.data.toList = [] := List.eq_nil_of_length_eq_zero (by omega)
          rw [this] at hlead; cases hlead
        · exact h
      exact ⟨hpos, by omega, .inl fun k hk _ => isDig_bounds (List.all_eq_true.1 hall _ (Tp.mem_data s k hk))⟩
/-- exact.Int: some pointer, and the code. -/
def IntOut (w : World) (c : Int) (e : Ending) (w' : World) : Prop := ∃ p, e = .returned (.tuple #[.pointer p, .int .i64 c]) ∧ Tch Nil w w'
set_option maxHeartbeats 1000000 in
theorem exactInt_any (w : World) (s : ByteArray) (a : Addr) (hw : 0 < w.heap.size) (hs : s.size ≤ maxLen) (hE : w.cell? ⟨0, 0, none⟩ = some (.iface 243 (.pointer (some a)))) :
    Calls Tryz.prog 36 #[.string s] w (IntOut w (whole s.data.toList)) := by
  unfold whole
  cases hf : Tp.formed s.data.toList
  · go_enter Tryz.func36, Tryz.ntmps36
    go_wp2_with (go_at_call 50; refine (formed_any _ _ hs).mono ?_; rintro e w' ⟨rfl, rfl⟩)
    go_ret2
    exact ⟨none, rfl, Tch.refl _ _⟩
  · by_cases hb : (Tp.bare s.data.toList).length > 20000
    · rw [if_pos rfl, if_pos hb]
      go_enter Tryz.func36, Tryz.ntmps36
      go_wp2_with (first | (go_at_call 50; refine (formed_any _ _ hs).mono ?_; rintro e w' ⟨rfl, rfl⟩) | (go_at_call 51; refine (digits_any _ _ hs).mono ?_; rintro e w' ⟨rfl, rfl⟩))
      go_ret2
      exact ⟨none, rfl, Tch.refl _ _⟩
    · have hsc := formed_scans s hf (by omega)
      rw [if_pos rfl, if_neg hb]
      have hE' := Lib.hid hE; clear hE
      go_enter Tryz.func36, Tryz.ntmps36
      go_wp2_with (first | (go_at_call 50; refine (formed_any _ _ hs).mono ?_; rintro e w' ⟨rfl, rfl⟩) | (go_at_call 51; refine (digits_any _ _ hs).mono ?_; rintro e w' ⟨rfl, rfl⟩) | (go_at_call 52; refine (number_any _ _ a hw hsc hE'.out).mono ?_; rintro e w' ⟨Z, rfl, hZ, hn, ht⟩))
      go_ret2
      exact ⟨_, rfl, ht⟩
end Go.Proofs.YtbblbolpcdkggaaGreatFmt
/-
  Walks: exact.Poly and surdref0.Poly.
-/
namespace Go.Proofs.YtbblbolpcdkggaaGreatFmt
open Go.RowKit
def Strs (w : World) (g : Nat) (ss : List ByteArray) : Prop := ∀ (j : Nat) (h : j < ss.length), w.cell? ⟨g, j, none⟩ = some (.string ss[j])
def lists (ss : List ByteArray) : List (List UInt8) := ss.map (·.data.toList)
def polyFold (l : List (List UInt8)) : Int := l.foldl (fun c s => worst c (whole s)) 0
def polyCode (l : List (List UInt8)) : Int := if l.getLast? = some [48] then 2 else if l.length > 65 then worst (polyFold l) 3 else polyFold l
theorem worst_code {a b : Int} (ha : Code3 a) (hb : Code3 b) : Code3 (worst a b) := by
  unfold worst Code3 at *; split <;> (try split) <;> omega
theorem fold_code (l : List (List UInt8)) : ∀ c, Code3 c → Code3 (l.foldl (fun c s => worst c (whole s)) c) := by
  induction l with
  | nil => intro c h; exact h
  | cons x l ih => intro c h; exact ih _ (worst_code h (whole_code x))
theorem polyFold_code (l : List (List UInt8)) : Code3 (polyFold l) := fold_code l 0 (.inl rfl)
theorem polyFold_snoc (ss : List ByteArray) (k : Nat) (h : k < ss.length) : polyFold (lists (ss.take (k + 1))) = worst (polyFold (lists (ss.take k))) (whole ss[k].data.toList) := by
  unfold polyFold lists
  rw [List.take_succ_eq_append_getElem h, List.map_append, List.foldl_append]; rfl
theorem Strs.tch {w w' : World} {g : Nat} {ss : List ByteArray} {S : Nat → Prop} (h : Strs w g ss) (ht : Tch S w w') (hs : ¬ S g) : Strs w' g ss := fun j hj => ht.cell (h j hj) hs
def PolyRel (w : World) (ss : List ByteArray) (v c i : Value) (wr : World) : Prop := ∃ (k : Nat) (xs : List Value), k ≤ ss.length ∧ i = .int .i64 k ∧ c = .int .i64 (polyFold (lists (ss.take k))) ∧ wr.ownsRow w.heap.size 62 1 v k xs ∧ Tch Nil w wr
theorem ownsRow_tch {w w' : World} {base n size : Nat} {e : TypeId} {v : Value} {xs : List Value} (h : w.ownsRow base e size v n xs) (ht : Tch Nil w w') : w'.ownsRow base e size v n xs := by
  refine ⟨h.1, ?_⟩
  rcases h.2 with h1 | ⟨g, cap, cur, h1, h2, h3, h4⟩
  · exact .inl h1
  · have hg : g < w.heap.size := by
      rcases Nat.lt_or_ge g w.heap.size with hlt | hge
      · exact hlt
      · rw [Array.getElem?_eq_none hge] at h3; cases h3
    exact .inr ⟨g, cap, cur, h1, h2, (ht.block g hg (fun e => e)).trans h3, h4⟩
def PolyOut (w : World) (c : Int) (e : Ending) (w' : World) : Prop := ∃ v, e = .returned (.tuple #[v, .int .i64 c]) ∧ Tch Nil w w'
set_option maxRecDepth 100000 in
set_option maxHeartbeats 1000000 in
theorem poly_any (w : World) (g cap : Nat) (ss : List ByteArray) (a : Addr) (hg : g < w.heap.size) (hst : Strs w g ss) (hsz : ∀ s ∈ ss, s.size ≤ maxLen) (hn : ss.length * 16 ≤ 140737488355328) (hcap : ss.length ≤ cap)
    (hE : w.cell? ⟨0, 0, none⟩ = some (.iface 243 (.pointer (some a)))) :
    Calls Tryz.prog 20 #[.slice (some ⟨g, 0, none⟩) ss.length cap] w (PolyOut w (polyCode (lists ss))) := by
  have hw : 0 < w.heap.size := by omega
  have hlen : ss.length ≤ 9223372036854775807 := by omega
  have Hst := Lib.hid hst; clear hst
  have hE' := Lib.hid hE; clear hE
  have info62 : (Tryz.prog.info? 62).map (fun i => (i.zero, i.size, i.bytes)) = some (some (.pointer none), 1, 8) := by kernel_rfl
  obtain ⟨i0, hi, hz0, hz1, hz2⟩ := info_parts info62
  clear info62
  go_enter Tryz.func20, Tryz.ntmps20
  go_wp2_with (refine wpList_make_own _ rfl _ _ 46 rfl w.heap.size 62 i0 (.pointer none) 1 Tryz.underlying46 hi hz0 hz1 .i64 .i64 _ ss.length rfl rfl rfl ?c1 ?c2 ?c3 ?_)
  case c1 => rw [hz2]; omega
  case c2 => unfold maxLen; omega
  case c3 => exact Nat.le_refl _
  intro w1 hown1 hgrow1
  have ht1 := Tch.grown_none hgrow1
  go_wp2
  go_loopw [4, 5, 15] (fun v c i wr => PolyRel w ss v c i wr) (fun _ _ i _ => ss.length - (intOf i).toNat)
  case atStart => exact ⟨0, [], Nat.zero_le _, rfl, rfl, hown1, ht1⟩
  case round =>
    obtain ⟨k, xs, hk, rfl, rfl, hown, ht⟩ := hrel
    have Hown := Lib.hid hown; clear hown hown1 hgrow1 ht1
    have hcode := polyFold_code (lists (ss.take k))
    have htz := ht.size
    have Ht := Lib.hid ht; clear ht
    by_cases hlt : k < ss.length
    · have hcell := (Hst.out.tch Ht.out (fun e => e)) k hlt
      have hE1 := Ht.out.cell hE'.out (fun e => e)
      have hsk := hsz ss[k] (List.getElem_mem hlt)
      have HE1 := Lib.hid hE1; clear hE1
      have hfold := polyFold_snoc ss k hlt
      have hwc := whole_code ss[k].data.toList
      generalize polyFold (lists (ss.take k)) = c at *
      generalize ss[k] = s at *
      go_wp2_with fail
      refine (exactInt_any wr s a (by omega) hsk HE1.out).mono ?_
      rintro e w2 ⟨p, rfl, ht2⟩
      have hzz := ht2.size
      have Ht2 := Lib.hid ht2; clear ht2
      have hown2 := ownsRow_tch Hown.out Ht2.out
      have Hown2 := Lib.hid hown2; clear hown2 Hown
      go_wp2_with fail
      refine (worst_two c (whole s.data.toList) hcode hwc _ _ (by rw [(Blk.new _ _ _).cell]; rfl) (by rw [(Blk.new _ _ _).cell]; rfl)).mono ?_
      rintro e w3 ⟨rfl, rfl⟩
      have hown3 := Hown2.out.alloc (.cells #[.int .i64 c, .int .i64 (whole s.data.toList)] 27)
      have Hown3 := Lib.hid hown3; clear hown3 Hown2
      go_wp2_with (at_builtin; refine wpList_append_own _ rfl _ _ 46 rfl w.heap.size 62 i0 (.pointer none) 1 8 Tryz.underlying46 hi hz0 hz1 hz2 rfl (by decide) _ _ _ rfl (Hown3.out.alloc _) ⟨w2.heap.size + 1, 0, none⟩ 1 1 [.pointer p] rfl rfl ?c1 ?c2 ?c3 ?c4 ?c5 ?_)
      case c1 => have h := cell_one_new (w2.alloc (.cells #[.int .i64 c, .int .i64 (whole s.data.toList)] 27)) (.pointer p) 62; rw [World.size_alloc] at h; exact h
      case c2 => intro u hu; simp at hu; subst hu; rfl
      case c3 => unfold maxLen; omega
      case c4 => omega
      case c5 => simp; omega
      intro v' w4 hown4 hgrow4 _
      have htt : Tch Nil w w4 := (((Ht.out.then Ht2.out).alloc _).alloc _).trans (Tch.grown hgrow4) (fun k hk e => by have h := (Hown3.out.lt k e.symm).1; omega)
      clear hgrow4
      have Hown4 := Lib.hid hown4; clear hown4 Hown3
      have Hfold := Lib.hid hfold; clear hfold
      go_wp2
      go_roundw
      case rel => exact ⟨k + 1, _, by omega, by go_num, by rw [Hfold.out], Hown4.out, htt⟩
      case measure => simp [intOf]; omega
    · have hk' : k = ss.length := by omega
      subst hk'
      have hfull : lists (ss.take ss.length) = lists ss := by rw [List.take_length]
      rw [hfull] at hcode ⊢
      clear hfull
      by_cases h0 : ss = []
      · subst h0
        go_wp2
        go_ret2
        exact ⟨_, rfl, Ht.out⟩
      · have hpos : 0 < ss.length := List.length_pos_iff.2 h0
        have hcell := (Hst.out.tch Ht.out (fun e => e)) (ss.length - 1) (by omega)
        have hlast : (lists ss).getLast? = some ss[ss.length - 1].data.toList := by
          unfold lists
          rw [List.getLast?_eq_getElem?, List.length_map, List.getElem?_map, List.getElem?_eq_getElem (by omega)]; rfl
        have hll : (lists ss).length = ss.length := by unfold lists; rw [List.length_map]
        have hpc : polyCode (lists ss) = if (ss[ss.length - 1].toList == [48]) = true then 2 else if ss.length > 65 then worst (polyFold (lists ss)) 3 else polyFold (lists ss) := by
          unfold polyCode; rw [hlast, hll, ByteArray.toList_eq]; simp
        generalize ss[ss.length - 1] = last at *
        have Hl := Lib.hid hlast; clear hlast
        have Hll := Lib.hid hll; clear hll
        cases hz : (last.toList == [48])
        · rw [hz, if_neg (by simp)] at hpc
          by_cases h65 : ss.length > 65
          · rw [if_pos h65] at hpc
            generalize polyFold (lists ss) = c at *
            have Hpc := Lib.hid hpc; clear hpc
            go_wp2_with fail
            refine (worst_two c 3 hcode (.inr (.inr rfl)) _ _ (by rw [(Blk.new _ _ _).cell]; rfl) (by rw [(Blk.new _ _ _).cell]; rfl)).mono ?_
            rintro e w3 ⟨rfl, rfl⟩
            have hne : ((worst c 3) != 0) = true := by unfold worst; split <;> simp
            go_wp2
            go_ret2
            exact ⟨_, by rw [Hpc.out]; rfl, Ht.out.alloc _⟩
          · rw [if_neg h65] at hpc
            generalize polyFold (lists ss) = c at *
            have Hpc := Lib.hid hpc; clear hpc
            rcases hcode with rfl | rfl | rfl
            all_goals
              go_wp2
              go_ret2
              exact ⟨_, by rw [Hpc.out]; rfl, Ht.out⟩
        · rw [hz, if_pos rfl] at hpc
          have Hpc := Lib.hid hpc; clear hpc
          go_wp2
          go_ret2
          exact ⟨_, by rw [Hpc.out]; rfl, Ht.out⟩
end Go.Proofs.YtbblbolpcdkggaaGreatFmt
/-
  Walks: surdref0.Poly.
-/
namespace Go.Proofs.YtbblbolpcdkggaaGreatFmt
open Go.RowKit
/-- A list of texts that came in: its cells. -/
def StrsAt (w : World) (b off : Nat) (ss : List ByteArray) : Prop := ∀ (j : Nat) (h : j < ss.length), w.cell? ⟨b, off + j, none⟩ = some (.string ss[j])
theorem StrsAt.tch {w w' : World} {g off : Nat} {ss : List ByteArray} {S : Nat → Prop} (h : StrsAt w g off ss) (ht : Tch S w w') (hs : ¬ S g) : StrsAt w' g off ss := fun j hj => ht.cell (h j hj) hs
def RPolyRel (w : World) (ss : List ByteArray) (c i : Value) (wr : World) : Prop := ∃ (k : Nat), k ≤ ss.length ∧ i = .int .i64 k ∧ c = .int .i64 (polyFold (lists (ss.take k))) ∧ Tch Nil w wr
def RetI (w : World) (c : Int) (e : Ending) (w' : World) : Prop := e = .returned (.int .i64 c) ∧ Tch Nil w w'
set_option maxRecDepth 100000 in
set_option maxHeartbeats 1000000 in
theorem refPoly_nil (w : World) (c : Nat) : Calls Tryz.prog 12 #[.slice none 0 c] w (RetI w 0) := by
  go_enter Tryz.func12, Tryz.ntmps12
  go_wp2
  go_rounds 1
  go_ret
  exact ⟨rfl, Tch.refl _ _⟩
set_option maxRecDepth 100000 in
set_option maxHeartbeats 1000000 in
theorem refPoly_any (w : World) (g off cap : Nat) (ss : List ByteArray) (hg : g < w.heap.size) (hst : StrsAt w g off ss) (hsz : ∀ s ∈ ss, s.size ≤ maxLen) (hn : ss.length * 16 ≤ 140737488355328) (hcap : ss.length ≤ cap) :
    Calls Tryz.prog 12 #[.slice (some ⟨g, off, none⟩) ss.length cap] w (RetI w (polyCode (lists ss))) := by
  have hw : 0 < w.heap.size := by omega
  have hlen : ss.length ≤ 9223372036854775807 := by omega
  have Hst := Lib.hid hst; clear hst
  go_enter Tryz.func12, Tryz.ntmps12
  go_wp2
  go_loopw [3, 4] (fun c i wr => RPolyRel w ss c i wr) (fun _ i _ => ss.length - (intOf i).toNat)
  case atStart => exact ⟨0, Nat.zero_le _, rfl, rfl, Tch.refl _ _⟩
  case round =>
    obtain ⟨k, hk, rfl, rfl, ht⟩ := hrel
    have hcode := polyFold_code (lists (ss.take k))
    have htz := ht.size
    have Ht := Lib.hid ht; clear ht
    by_cases hlt : k < ss.length
    · have hcell := (Hst.out.tch Ht.out (fun e => e)) k hlt
      have hsk := hsz ss[k] (List.getElem_mem hlt)
      have hfold := polyFold_snoc ss k hlt
      have hwc := whole_code ss[k].data.toList
      generalize polyFold (lists (ss.take k)) = c at *
      generalize ss[k] = s at *
      have Hfold := Lib.hid hfold; clear hfold
      go_wp2_with (go_at_call 31; refine (whole_any _ _ hsk).mono ?_; rintro e w' ⟨rfl, rfl⟩)
      refine (first_two c (whole s.data.toList) hcode hwc _ _ (by rw [(Blk.new _ _ _).cell]; rfl) (by rw [(Blk.new _ _ _).cell]; rfl)).mono ?_
      rintro e w3 ⟨rfl, rfl⟩
      go_wp2
      go_roundw
      case rel => exact ⟨k + 1, by omega, by go_num, by rw [Hfold.out], Ht.out.alloc _⟩
      case measure => simp [intOf]; omega
    · have hk' : k = ss.length := by omega
      subst hk'
      have hfull : lists (ss.take ss.length) = lists ss := by rw [List.take_length]
      rw [hfull] at hcode ⊢
      clear hfull
      by_cases h0 : ss = []
      · subst h0
        go_wp2
        go_ret
        exact ⟨rfl, Ht.out⟩
      · have hpos : 0 < ss.length := List.length_pos_iff.2 h0
        have hcell := (Hst.out.tch Ht.out (fun e => e)) (ss.length - 1) (by omega)
        have hlast : (lists ss).getLast? = some ss[ss.length - 1].data.toList := by
          unfold lists
          rw [List.getLast?_eq_getElem?, List.length_map, List.getElem?_map, List.getElem?_eq_getElem (by omega)]; rfl
        have hll : (lists ss).length = ss.length := by unfold lists; rw [List.length_map]
        have hpc : polyCode (lists ss) = if (ss[ss.length - 1].toList == [48]) = true then 2 else if ss.length > 65 then worst (polyFold (lists ss)) 3 else polyFold (lists ss) := by
          unfold polyCode; rw [hlast, hll, ByteArray.toList_eq]; simp
        generalize ss[ss.length - 1] = last at *
        have Hl := Lib.hid hlast; clear hlast
        have Hll := Lib.hid hll; clear hll
        cases hz : (last.toList == [48])
        · rw [hz, if_neg (by simp)] at hpc
          by_cases h65 : ss.length > 65
          · rw [if_pos h65] at hpc
            generalize polyFold (lists ss) = c at *
            have Hpc := Lib.hid hpc; clear hpc
            go_wp2_with fail
            refine (first_two c 3 hcode (.inr (.inr rfl)) _ _ (by rw [(Blk.new _ _ _).cell]; rfl) (by rw [(Blk.new _ _ _).cell]; rfl)).mono ?_
            rintro e w3 ⟨rfl, rfl⟩
            go_wp2
            go_ret
            exact ⟨by rw [Hpc.out]; rfl, Ht.out.alloc _⟩
          · rw [if_neg h65] at hpc
            generalize polyFold (lists ss) = c at *
            have Hpc := Lib.hid hpc; clear hpc
            go_wp2
            go_ret
            exact ⟨by rw [Hpc.out]; rfl, Ht.out⟩
        · rw [hz, if_pos rfl] at hpc
          have Hpc := Lib.hid hpc; clear hpc
          go_wp2
          go_ret
          exact ⟨by rw [Hpc.out]; rfl, Ht.out⟩
end Go.Proofs.YtbblbolpcdkggaaGreatFmt
