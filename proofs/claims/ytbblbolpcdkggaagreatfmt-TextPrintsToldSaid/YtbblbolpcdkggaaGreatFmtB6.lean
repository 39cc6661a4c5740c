/-
  Walks: ref's Print.
-/
import Derived.Test.YtbblbolpcdkggaaGreatFmtB5
import Derived.Test.YtbblbolpcdkggaaGreatFmtA8
namespace Go.Proofs.YtbblbolpcdkggaaGreatFmt
open Go.RowKit
def RPrintOut (w : World) (r : List UInt8 × Int) (e : Ending) (w' : World) : Prop := (∃ z : ByteArray, e = .returned (.tuple #[.string z, .int .i64 r.2]) ∧ z.data.toList = r.1) ∧ Tch Nil w w'
def RpRel (w : World) (n : Nat) (ls : List (List UInt8)) (sv kv : Value) (wr : World) : Prop :=
  ∃ (j : Nat) (z : ByteArray), j ≤ n ∧ sv = .string z ∧ kv = .int .i64 ((n : Int) - 1 - j) ∧ z.data.toList = prT ls j ∧ (prT ls j).length ≤ 65536 ∧ Tch Nil w wr
theorem IntAt.tch {w w' : World} {g base : Nat} {neg : Bool} {ws : List Nat} (h : IntAt w g base neg ws) (ht : Tch Nil w w') : IntAt w' g base neg ws := by
  obtain ⟨v, h1, h2, h3⟩ := h
  exact ⟨v, h1.tch ht (fun h => h), h2.tch ht (fun _ _ h => h), h3⟩
theorem rsign_len (f n : Bool) : (rsign f n).length ≤ 3 := by cases f <;> cases n <;> decide
theorem refPrint_no (w : World) (v : Value) (ss : List ByteArray) (hp : Calls Tryz.prog 12 #[v] w (RetI w (polyCode (lists ss)))) (hc : polyCode (lists ss) ≠ 0) :
    Calls Tryz.prog 5 #[v] w (RPrintOut w (printRes (lists ss))) := by
  have hfin : printRes (lists ss) = ([], polyCode (lists ss)) := by unfold printRes; rw [if_pos hc]
  have Hfin := Lib.hid hfin; clear hfin
  have hb : (polyCode (lists ss) != 0) = true := by rw [bne_iff_ne]; exact hc
  have Hp := Lib.hid hp; clear hp
  go_enter Tryz.func5, Tryz.ntmps5
  go_wp2_with (go_at_call 12; refine Hp.out.mono ?_)
  rintro e w1 ⟨rfl, ht⟩
  go_wp2
  go_ret2
  exact ⟨⟨_, by rw [Hfin.out]; rfl, by rw [Hfin.out]⟩, ht⟩
theorem refPrint_nil (w : World) (c : Nat) : Calls Tryz.prog 5 #[.slice none 0 c] w (RPrintOut w (printRes [])) := by
  have hp := refPoly_nil w c
  have Hp := Lib.hid hp; clear hp
  go_enter Tryz.func5, Tryz.ntmps5
  go_wp2_with (go_at_call 12; refine Hp.out.mono ?_)
  rintro e w1 ⟨rfl, ht⟩
  go_wp2
  go_rounds 1
  go_ret2
  exact ⟨⟨_, rfl, rfl⟩, ht⟩
set_option maxRecDepth 100000 in
set_option maxHeartbeats 4000000 in
theorem refPrint_yes (w : World) (b off cap : Nat) (ss : List ByteArray) (hst : StrsAt w b off ss) (hcap : ss.length ≤ cap)
    (hp : Calls Tryz.prog 12 #[.slice (some ⟨b, off, none⟩) ss.length cap] w (RetI w (polyCode (lists ss)))) (hc : polyCode (lists ss) = 0) :
    Calls Tryz.prog 5 #[.slice (some ⟨b, off, none⟩) ss.length cap] w (RPrintOut w (printRes (lists ss))) := by
  have F := rpFacts hst hc
  have hF := Lib.hid F
  rw [hc] at hp
  have Hp := Lib.hid hp; clear hp hst hc
  have h65 := F.small
  clear F
  generalize lists ss = ls at *
  generalize ss.length = n at *
  go_enter Tryz.func5, Tryz.ntmps5
  go_wp2_with (go_at_call 12; refine Hp.out.mono ?_)
  rintro e w1 ⟨rfl, ht1⟩
  have Ht1 := Lib.hid ht1; clear ht1
  go_wp2
  go_loopw [5, 6] (fun sv kv wr => RpRel w n ls sv kv wr) (fun _ kv _ => (intOf kv + 1).toNat)
  case atStart => exact ⟨0, ⟨#[]⟩, Nat.zero_le _, rfl, by simp, rfl, Nat.zero_le _, Ht1.out⟩
  case round =>
    obtain ⟨j, z, hj, rfl, rfl, hz, hzl, ht⟩ := hrel
    have hts := ht.size
    have Ht := Lib.hid ht; clear ht
    have Hzl := Lib.hid hzl
    have hzs : z.size < 4294967296 := by rw [← Tp.len_data, hz]; omega
    clear hzl
    have Hz := Lib.hid hz; clear hz
    by_cases hlt : j < n
    · obtain ⟨m, s, hn, hcell, hf, hbl, hstep⟩ := hF.out.round j hlt
      have hcw : wr.cell? ⟨b, off + m, none⟩ = some (.string s) := Ht.out.cell hcell (fun h => h)
      clear hcell
      have hkm : ((n : Int) - 1 - j) = (m : Int) := by omega
      rw [hkm]
      have Hn := Lib.hid hn
      have hmn : m < n := by omega
      have hm100 : m < 100 := by omega
      clear hn hkm
      have hint := refInt_any wr s hf hbl
      have Hint := Lib.hid hint; clear hint
      have hnum := formed_num hf
      clear hf
      have Hbl := Lib.hid hbl; clear hbl
      have Hstep := Lib.hid hstep; clear hstep
      go_wp2_with (go_at_call 13; refine Hint.out.mono ?_)
      rintro e w2 ⟨rfl, ⟨ws, hat, hval⟩, ht2⟩
      have hs2 := ht2.size
      have Ht2 := Lib.hid ht2; clear ht2
      have hsg := sign_any w2 _ _ _ ws hat
      rw [hval] at hsg
      have Hat := Lib.hid hat; clear hat
      rcases hnum with ⟨e48, e0⟩ | ⟨e48, epos, edig⟩
      · have : signNum (negOf s.data.toList && decide (0 < ws.length)) (dv (Tp.bare s.data.toList)) = 0 := by rw [e0]; rfl
        rw [this] at hsg
        have Hsg := Lib.hid hsg; clear hsg this
        go_wp2_with (go_at_call 14; refine Hsg.out.mono ?_)
        rintro e w3 ⟨rfl, rfl⟩
        go_wp2
        go_roundw
        case rel => exact ⟨j + 1, z, by omega, rfl, by have := Hn.out; congr 1; omega, by rw [Hz.out, Hstep.out, e48]; rfl, by rw [Hstep.out, e48]; exact Hzl.out, Ht.out.then Ht2.out⟩
        case measure => simp [intOf]
      · have hwl : 0 < ws.length := by
          rcases Nat.eq_zero_or_pos ws.length with h | h
          · rw [List.length_eq_zero_iff.1 h] at hval; have h0 : wval [] = 0 := rfl; omega
          · exact h
        have hsn : signNum (negOf s.data.toList && decide (0 < ws.length)) (dv (Tp.bare s.data.toList)) = if negOf s.data.toList then -1 else 1 := by
          unfold signNum; rw [if_neg (by omega), show decide (0 < ws.length) = true from by simpa using hwl, Bool.and_true]
        rw [hsn] at hsg
        have hst2 := step_ref (prT ls j) s.data.toList m e48
        rw [← Hstep.out] at hst2
        have Hst2 := Lib.hid hst2; clear hst2
        have hfb : z.toList.isEmpty = (prT ls j == []) := by rw [ByteArray.toList_eq, Hz.out]; cases prT ls j <;> rfl
        have Hfb := Lib.hid hfb; clear hfb
        have Hwl := Lib.hid hwl; clear hwl
        have Hval := Lib.hid hval; clear hval hsn
        have Hsg := Lib.hid hsg; clear hsg
        have Hpos := Lib.hid epos; clear epos
        have Hdig := Lib.hid edig; clear edig e48
        have HnF := Lib.hid (show ∀ D, D = dv (Tp.bare s.data.toList) → D = D from fun _ _ => rfl)
        cases hng : negOf s.data.toList
        · have Hng := Lib.hid hng
          rw [hng] at Hsg Hst2
          clear hng
          simp only [if_false, Bool.false_eq_true] at Hsg
          go_wp2_with (go_at_call 14; refine Hsg.out.mono ?_)
          rintro e w3 ⟨rfl, rfl⟩
          go_wp2_with (go_at_call 14; refine Hsg.out.mono ?_)
          rintro e w3 ⟨rfl, rfl⟩
          go_wp2_with (go_at_call 15; refine (rsign_any w2 z.toList.isEmpty false).mono ?_)
          rintro e w4 ⟨⟨z1, rfl, hz1⟩, ht4⟩
          have hz1s : z1.size < 10 := by rw [← Tp.len_data, hz1]; have := rsign_len z.toList.isEmpty false; omega
          have hs4 := ht4.size
          have Ht4 := Lib.hid ht4; clear ht4
          have Hz1 := Lib.hid hz1; clear hz1
          have habs := abs_any (w4.alloc (.cells #[.bool false, .slice none 0 0] 43)) w4.heap.size wr.heap.size (w4.heap.size + 1) _ _ ws _ _ ((Hat.out.tch Ht4.out).tch ((Tch.refl Nil w4).alloc _)) (Blk.new _ _ _) Hwl.out (by omega) (by simp)
          have Habs := Lib.hid habs; clear habs
          go_wp2_with (go_at_call 17; refine Habs.out.mono ?_)
          rintro e w5 ⟨rfl, ⟨ws2, hat2, hval2⟩, ht5⟩
          have ht5' : Tch Nil w4 w5 := ((Tch.refl Nil w4).alloc _).trans ht5 (fun k hk h => by rcases h with h | h <;> (exfalso; omega))
          have hs5 := ht5'.size
          have Ht5 := Lib.hid ht5'; clear ht5 ht5'
          have hv2 : wval ws2 = dv (Tp.bare s.data.toList) := hval2.trans Hval.out
          have hstr := string_any w5 _ _ ws2 hat2 (by rw [hv2]; exact Hpos.out) (by rw [hv2, Hdig.out]; have := Hbl.out; omega)
          rw [hv2, ] at hstr
          have Hstr := Lib.hid hstr; clear hstr hat2 hval2 hv2
          go_wp2_with (go_at_call 18; refine Hstr.out.mono ?_)
          rintro e w6 ⟨rfl, ht6⟩
          have hs6 := ht6.size
          have Ht6 := Lib.hid ht6; clear ht6
          obtain ⟨y, hy⟩ : ∃ y : ByteArray, (⟨(Lib.decDigits (dv (Tp.bare s.data.toList))).toArray⟩ : ByteArray) = y := ⟨_, rfl⟩
          have hyl : y.data.toList = Tp.bare s.data.toList := by rw [← hy]; exact Hdig.out
          have hys : y.size < 4294967296 := by rw [← Tp.len_data, hyl]; have := Hbl.out; omega
          rw [hy]
          have Hyl := Lib.hid hyl; clear hyl hy
          go_wp2_with (go_at_call 16; refine (rterm_any w6 y m hys hm100).mono ?_)
          rintro e w7 ⟨⟨z2, rfl, hz2⟩, ht7⟩
          have hs7 := ht7.size
          have Ht7 := Lib.hid ht7; clear ht7
          have hz2s : z2.size < 4294967296 := by
            rw [← Tp.len_data, hz2]; have := termOf_length y.data.toList m hm100; rw [Hyl.out] at this ⊢; have := Hbl.out; omega
          have hacc : (z ++ z1 ++ z2).data.toList = prT ls (j + 1) := by
            rw [Hst2.out, ByteArray.data_append, ByteArray.data_append, Array.toList_append, Array.toList_append, Hz.out, Hz1.out, hz2, Hyl.out]
            congr 3
          have hsz : (prT ls (j + 1)).length = z.size + z1.size + z2.size := by
            rw [← hacc, Tp.len_data, ByteArray.size_append, ByteArray.size_append]
          have htt : Tch Nil w w7 := ((((Ht.out.then Ht2.out).then Ht4.out).then Ht5.out).then Ht6.out).then Ht7.out
          have Htt := Lib.hid htt; clear htt
          have Hacc := Lib.hid hacc; clear hacc
          clear hz2
          by_cases hlong : 65536 < z.size + z1.size + z2.size
          · have hr := hF.out.long (j + 1) (by omega) (by omega)
            have Hr := Lib.hid hr; clear hr hsz
            have hbig : ((z.size : Int) + z1.size + z2.size > 65536) := by omega
            go_wp2
            go_ret2
            exact ⟨⟨_, by rw [Hr.out]; rfl, by rw [Hr.out]⟩, Htt.out⟩
          · have Hsz := Lib.hid hsz; clear hsz
            have hbig : ¬ ((z.size : Int) + z1.size + z2.size > 65536) := by omega
            have Hlong := Lib.hid hlong; clear hlong
            go_wp2
            go_roundw
            case rel => exact ⟨j + 1, _, by omega, rfl, by have := Hn.out; congr 1; omega, Hacc.out, by have := Hsz.out; have := Hlong.out; omega, Htt.out⟩
            case measure => simp [intOf]
        · have Hng := Lib.hid hng
          rw [hng] at Hsg Hst2
          clear hng
          simp only [if_true] at Hsg
          go_wp2_with (go_at_call 14; refine Hsg.out.mono ?_)
          rintro e w3 ⟨rfl, rfl⟩
          go_wp2_with (go_at_call 14; refine Hsg.out.mono ?_)
          rintro e w3 ⟨rfl, rfl⟩
          go_wp2_with (go_at_call 15; refine (rsign_any w2 z.toList.isEmpty true).mono ?_)
          rintro e w4 ⟨⟨z1, rfl, hz1⟩, ht4⟩
          have hz1s : z1.size < 10 := by rw [← Tp.len_data, hz1]; have := rsign_len z.toList.isEmpty true; omega
          have hs4 := ht4.size
          have Ht4 := Lib.hid ht4; clear ht4
          have Hz1 := Lib.hid hz1; clear hz1
          have habs := abs_any (w4.alloc (.cells #[.bool false, .slice none 0 0] 43)) w4.heap.size wr.heap.size (w4.heap.size + 1) _ _ ws _ _ ((Hat.out.tch Ht4.out).tch ((Tch.refl Nil w4).alloc _)) (Blk.new _ _ _) Hwl.out (by omega) (by simp)
          have Habs := Lib.hid habs; clear habs
          go_wp2_with (go_at_call 17; refine Habs.out.mono ?_)
          rintro e w5 ⟨rfl, ⟨ws2, hat2, hval2⟩, ht5⟩
          have ht5' : Tch Nil w4 w5 := ((Tch.refl Nil w4).alloc _).trans ht5 (fun k hk h => by rcases h with h | h <;> (exfalso; omega))
          have hs5 := ht5'.size
          have Ht5 := Lib.hid ht5'; clear ht5 ht5'
          have hv2 : wval ws2 = dv (Tp.bare s.data.toList) := hval2.trans Hval.out
          have hstr := string_any w5 _ _ ws2 hat2 (by rw [hv2]; exact Hpos.out) (by rw [hv2, Hdig.out]; have := Hbl.out; omega)
          rw [hv2, ] at hstr
          have Hstr := Lib.hid hstr; clear hstr hat2 hval2 hv2
          go_wp2_with (go_at_call 18; refine Hstr.out.mono ?_)
          rintro e w6 ⟨rfl, ht6⟩
          have hs6 := ht6.size
          have Ht6 := Lib.hid ht6; clear ht6
          obtain ⟨y, hy⟩ : ∃ y : ByteArray, (⟨(Lib.decDigits (dv (Tp.bare s.data.toList))).toArray⟩ : ByteArray) = y := ⟨_, rfl⟩
          have hyl : y.data.toList = Tp.bare s.data.toList := by rw [← hy]; exact Hdig.out
          have hys : y.size < 4294967296 := by rw [← Tp.len_data, hyl]; have := Hbl.out; omega
          rw [hy]
          have Hyl := Lib.hid hyl; clear hyl hy
          go_wp2_with (go_at_call 16; refine (rterm_any w6 y m hys hm100).mono ?_)
          rintro e w7 ⟨⟨z2, rfl, hz2⟩, ht7⟩
          have hs7 := ht7.size
          have Ht7 := Lib.hid ht7; clear ht7
          have hz2s : z2.size < 4294967296 := by
            rw [← Tp.len_data, hz2]; have := termOf_length y.data.toList m hm100; rw [Hyl.out] at this ⊢; have := Hbl.out; omega
          have hacc : (z ++ z1 ++ z2).data.toList = prT ls (j + 1) := by
            rw [Hst2.out, ByteArray.data_append, ByteArray.data_append, Array.toList_append, Array.toList_append, Hz.out, Hz1.out, hz2, Hyl.out]
            congr 3
          have hsz : (prT ls (j + 1)).length = z.size + z1.size + z2.size := by
            rw [← hacc, Tp.len_data, ByteArray.size_append, ByteArray.size_append]
          have htt : Tch Nil w w7 := ((((Ht.out.then Ht2.out).then Ht4.out).then Ht5.out).then Ht6.out).then Ht7.out
          have Htt := Lib.hid htt; clear htt
          have Hacc := Lib.hid hacc; clear hacc
          clear hz2
          by_cases hlong : 65536 < z.size + z1.size + z2.size
          · have hr := hF.out.long (j + 1) (by omega) (by omega)
            have Hr := Lib.hid hr; clear hr hsz
            have hbig : ((z.size : Int) + z1.size + z2.size > 65536) := by omega
            go_wp2
            go_ret2
            exact ⟨⟨_, by rw [Hr.out]; rfl, by rw [Hr.out]⟩, Htt.out⟩
          · have Hsz := Lib.hid hsz; clear hsz
            have hbig : ¬ ((z.size : Int) + z1.size + z2.size > 65536) := by omega
            have Hlong := Lib.hid hlong; clear hlong
            go_wp2
            go_roundw
            case rel => exact ⟨j + 1, _, by omega, rfl, by have := Hn.out; congr 1; omega, Hacc.out, by have := Hsz.out; have := Hlong.out; omega, Htt.out⟩
            case measure => simp [intOf]
    · obtain rfl : j = n := by omega
      have hres := hF.out.res Hzl.out
      have Hres := Lib.hid hres; clear hres
      have hneg : ((j : Int) - 1 - j) = -1 := by omega
      rw [hneg]
      cases hz0 : (z.toList == [])
      · have h2 := hz0
        rw [ByteArray.toList_eq, Hz.out, beq_eq_false_iff_ne] at h2
        have H2 := Lib.hid h2; clear h2
        go_wp2
        go_ret2
        refine ⟨⟨_, by rw [Hres.out]; rfl, ?_⟩, Ht.out⟩
        rw [Hres.out, if_neg H2.out]; exact Hz.out
      · have h2 := hz0
        rw [ByteArray.toList_eq, Hz.out, beq_iff_eq] at h2
        have H2 := Lib.hid h2; clear h2
        go_wp2
        go_ret2
        refine ⟨⟨_, by rw [Hres.out]; rfl, ?_⟩, Ht.out⟩
        rw [Hres.out, if_pos H2.out]
theorem refPrint_any (w : World) (v : Value) (ss : List ByteArray) (h : SliceOf w v ss) (hsz : ∀ s ∈ ss, s.size ≤ maxLen) (hn : ss.length * 16 ≤ 140737488355328) :
    Calls Tryz.prog 5 #[v] w (RPrintOut w (printRes (lists ss))) := by
  rcases h with ⟨rfl, rfl⟩ | ⟨b, off, cap, rfl, hst, hc, hb⟩
  · exact refPrint_nil w 0
  · have hp := refPoly_any w b off cap ss hb hst hsz hn hc
    by_cases h0 : polyCode (lists ss) = 0
    · exact refPrint_yes w b off cap ss hst hc hp h0
    · exact refPrint_no w _ ss hp h0
end Go.Proofs.YtbblbolpcdkggaaGreatFmt
/-
  Walks: TextPrints, of an awake that answers true.
-/
namespace Go.Proofs.YtbblbolpcdkggaaGreatFmt
open Go.RowKit
def TrueOut (w : World) (e : Ending) (w' : World) : Prop := e = .returned (.bool true) ∧ Tch Nil w w'
theorem SliceOf.tch {w w' : World} {v : Value} {ss : List ByteArray} (h : SliceOf w v ss) (ht : Tch Nil w w') : SliceOf w' v ss := by
  rcases h with h | ⟨b, off, cap, rfl, hst, hc, hb⟩
  · exact .inl h
  · exact .inr ⟨b, off, cap, rfl, hst.tch ht (fun h => h), hc, Nat.lt_of_lt_of_le hb ht.size⟩
theorem num_any (w : World) (c : Int) : Calls Tryz.prog 9 #[.int .i64 c] w fun e w' => e = .returned (.int .i64 c) ∧ w = w' := by
  go_enter Tryz.func9, Tryz.ntmps9
  go_wp2
  go_ret
  exact ⟨rfl, rfl⟩
def TpRel (w : World) (iv : Value) (wr : World) : Prop := ∃ k : Nat, k ≤ 2 ∧ iv = .int .i64 k ∧ Tch Nil w wr
set_option maxRecDepth 100000 in
set_option maxHeartbeats 4000000 in
theorem textPrints_any (w : World) (v : Value) (ss : List ByteArray) (a : Addr) (h : SliceOf w v ss) (hsz : ∀ s ∈ ss, s.size ≤ maxLen) (hn : ss.length * 16 ≤ 140737488351232)
    (hE : w.cell? ⟨0, 0, none⟩ = some (.iface 243 (.pointer (some a)))) (haw : Calls Tryz.prog 4 #[] w (TrueOut w)) :
    Calls Tryz.prog 3 #[v] w (TrueOut w) := by
  have H := Lib.hid h; clear h
  have Hsz := Lib.hid hsz; clear hsz
  have Hn := Lib.hid hn; clear hn
  have HE := Lib.hid hE; clear hE
  have Haw := Lib.hid haw; clear haw
  go_enter Tryz.func3, Tryz.ntmps3
  go_wp2_with (go_at_call 4; refine Haw.out.mono ?_)
  rintro e w1 ⟨rfl, ht1⟩
  have Ht1 := Lib.hid ht1; clear ht1
  go_wp2_with (go_at_call 5; refine (refPrint_any w1 v ss (H.out.tch Ht1.out) Hsz.out (by have := Hn.out; omega)).mono ?_)
  rintro e w2 ⟨⟨z, rfl, hz⟩, ht2⟩
  have Ht2 := Lib.hid ht2; clear ht2
  obtain ⟨R, hR⟩ : ∃ R, printRes (lists ss) = R := ⟨_, rfl⟩
  have HR := Lib.hid hR
  rw [hR] at hz ⊢
  clear hR
  have hz2 : z = ⟨R.1.toArray⟩ := by
    apply ByteArray.ext; apply Array.toList_inj.1; rw [hz]
  subst hz2
  clear hz
  obtain ⟨r1, r2⟩ := R
  go_wp2
  go_loopw [5] (fun iv wr => TpRel w iv wr) (fun iv _ => 2 - (intOf iv).toNat)
  case atStart => exact ⟨0, by omega, rfl, Ht1.out.then Ht2.out⟩
  case round =>
    obtain ⟨k, hk, rfl, ht⟩ := hrel
    have hts := ht.size
    have Ht := Lib.hid ht; clear ht
    by_cases hlt : k < 2
    · go_wp2_with (go_at_call 6; refine (lendTexts_any wr v ss (H.out.tch Ht.out) Hn.out).mono ?_)
      rintro e w3 ⟨v3, rfl, ⟨g, cs, rfl, hg, hb, hcs, rest, hr⟩, ht3⟩
      obtain ⟨k1, k2, k3⟩ := lent_cells hb hr
      have hgl := hb.lt
      have hs3 := ht3.size
      have Hb := Lib.hid hb; clear hb
      have Hr := Lib.hid hr; clear hr
      have Hcs := Lib.hid hcs; clear hcs
      have Ht3 := Lib.hid ht3; clear ht3
      have hst : Strs w3 g ss := fun j hj => by have := k1 j hj; rw [Nat.zero_add] at this; exact this
      have Hst := Lib.hid hst; clear hst k1 k2
      have hpr := print_any w3 g cs.size ss a hgl Hst.out Hsz.out (by have := Hn.out; omega) (by omega) (Ht3.out.cell (Ht.out.cell HE.out (fun h => h)) (fun h => h))
      rw [HR.out] at hpr
      have Hpr := Lib.hid hpr; clear hpr
      go_wp2_with (go_at_call 7; refine Hpr.out.mono ?_)
      rintro e w4 ⟨rfl, hb4⟩
      have hs4 := hb4.size
      have Hb4 := Lib.hid hb4; clear hb4
      have hke := keptTexts_any w4 g cs v ss (((H.out.tch Ht.out).tch Ht3.out).tch (Tch.of_whole Hb4.out)) (Hb.out.below Hb4.out hgl) Hcs.out rest Hr.out
      have Hke := Lib.hid hke; clear hke
      go_wp2_with (go_at_call 8; refine Hke.out.mono ?_)
      rintro e w5 ⟨rfl, ht5⟩
      have Ht5 := Lib.hid ht5; clear ht5
      go_wp2_with (go_at_call 9; refine (num_any _ _).mono ?_; rintro e w' ⟨rfl, rfl⟩)
      go_roundw
      case rel =>
        refine ⟨k + 1, by omega, by simp, ((Ht.out.then Ht3.out).then (Tch.of_whole Hb4.out)).trans Ht5.out (fun j hj h => ?_)⟩
        exfalso
        have h' : j = g := h
        omega
      case measure => simp [intOf]; omega
    · obtain rfl : k = 2 := by omega
      go_wp2
      go_ret
      exact ⟨rfl, Ht.out⟩
end Go.Proofs.YtbblbolpcdkggaaGreatFmt
