/-
  Walks: surdbig's SetUint64, SetInt64, NewInt; ref's Decimal, sign, term.
-/
import Derived.Test.YtbblbolpcdkggaaGreatFmtB4
import Derived.Test.YtbblbolpcdkggaaGreatFmtA8
import Derived.Test.YtbblbolpcdkggaaGreatFmtA6
namespace Go.Proofs.YtbblbolpcdkggaaGreatFmt
open Go.RowKit
set_option maxRecDepth 100000 in
set_option maxHeartbeats 1000000 in
theorem setU64_any (w : World) (g0 base k : Nat) (u0 u1 : Value) (hz : Blk w g0 43 #[u0, u1]) (hk : k < 100) (hg0 : g0 < base) (hB : base ≤ w.heap.size) :
    Calls Tryz.prog 81 #[.pointer (some ⟨g0, 0, none⟩), .int .u64 k] w (AbsOut w g0 base k) := by
  have hsh : ((k : Int) / 4294967296) = 0 := by omega
  have hrow : Row (w.alloc (.cells #[.int .u32 k, .int .u32 0] 79)) base (.slice (some ⟨w.heap.size, 0, none⟩) 2 2) [k, 0] :=
    World.ownsRow_lit w #[.int .u32 k, .int .u32 0] 2 hB (by decide) rfl
  have htr := trimmed_any _ base _ _ hrow
  have Htr := Lib.hid htr; clear htr hrow
  have Hz := Lib.hid hz; clear hz
  go_enter Tryz.func81, Tryz.ntmps81
  go_wp2_with (go_at_call 49; refine Htr.out.mono ?_)
  rintro e w1 ⟨rfl, v1, rs, rfl, hr, ⟨h1, h2, h3, h4⟩, -⟩
  obtain ⟨A, cap, rfl, -, -, -⟩ := hr.formA
  have H := Lib.hid (⟨hr, h1, h2, h3, h4⟩ : _ ∧ _ ∧ _ ∧ _ ∧ _)
  clear hr h1 h2 h3 h4
  go_wp2_with (go_at_call 34; refine (put_any _ g0 false A rs.length cap u0 u1 (Hz.out.alloc _)).mono ?_)
  rintro e w5 ⟨rfl, hb5, ht5⟩
  have Hb5 := Lib.hid hb5; clear hb5
  have Ht5 := Lib.hid ht5; clear ht5
  go_wp2
  go_ret
  have hw : W32s [k, 0] := by intro x hx; simp at hx; rcases hx with rfl | rfl <;> (unfold W0; omega)
  refine ⟨rfl, ⟨rs, ⟨_, Hb5.out, H.out.1.tch Ht5.out (fun k hk h => ?_), H.out.2.2.2.1 hw, H.out.2.2.1, by have := H.out.2.2.2.2; simp at this; omega⟩, by rw [H.out.2.1]; simp [wval]⟩, ((Tch.refl _ w).alloc _).trans Ht5.out (fun k _ h => .inl h)⟩
  have := (World.ownsRow.lt H.out.1 k hk).1
  omega
set_option maxHeartbeats 1000000 in
theorem setI64_any (w : World) (g0 base k : Nat) (u0 u1 : Value) (hz : Blk w g0 43 #[u0, u1]) (hk : k < 100) (hg0 : g0 < base) (hB : base ≤ w.heap.size) :
    Calls Tryz.prog 72 #[.pointer (some ⟨g0, 0, none⟩), .int .i64 k] w (AbsOut w g0 base k) := by
  have hc := setU64_any w g0 base k u0 u1 hz hk hg0 hB
  have Hc := Lib.hid hc; clear hc hz
  go_enter Tryz.func72, Tryz.ntmps72
  go_wp2_with (go_at_call 81; refine Hc.out.mono ?_)
  rintro e w1 ⟨rfl, h1, h2⟩
  have H1 := Lib.hid h1; clear h1
  have H2 := Lib.hid h2; clear h2
  go_wp2
  go_ret
  exact ⟨rfl, H1.out, H2.out⟩
set_option maxHeartbeats 1000000 in
theorem newInt_any (w : World) (k : Nat) (hk : k < 100) :
    Calls Tryz.prog 48 #[.int .i64 k] w (IntGot w false k) := by
  have hc := setI64_any (w.alloc (.cells #[.bool false, .slice none 0 0] 43)) w.heap.size (w.heap.size + 1) k _ _ (Blk.new _ _ _) hk (by omega) (by simp)
  have Hc := Lib.hid hc; clear hc
  go_enter Tryz.func48, Tryz.ntmps48
  go_wp2_with (go_at_call 72; refine Hc.out.mono ?_)
  rintro e w1 ⟨rfl, h1, h2⟩
  have H1 := Lib.hid h1; clear h1
  have H2 := Lib.hid h2; clear h2
  go_wp2
  go_ret
  refine ⟨rfl, H1.out, ((Tch.refl Nil w).alloc _).trans H2.out (fun k hk h => ?_)⟩
  rcases h with h | h <;> exfalso <;> omega
set_option maxHeartbeats 1000000 in
theorem decimal_any (w : World) (k : Nat) (hk : k < 100) (hk1 : 0 < k) :
    Calls Tryz.prog 33 #[.int .i64 k] w (StrOut w k) := by
  have hc := newInt_any w k hk
  have Hc := Lib.hid hc; clear hc
  have hds : (Lib.decDigits k).length ≤ 2 := decDigits_short k hk
  have Hds := Lib.hid hds; clear hds
  go_enter Tryz.func33, Tryz.ntmps33
  go_wp2_with (go_at_call 48; refine Hc.out.mono ?_)
  rintro e w1 ⟨rfl, ⟨ws, h1, h2⟩, ht⟩
  rw [Bool.false_and] at h1
  have hst := string_any w1 _ _ ws h1 (by omega) (by rw [h2]; have := Hds.out; omega)
  rw [h2] at hst
  have Hst := Lib.hid hst; clear hst h1 h2
  have Ht := Lib.hid ht; clear ht
  go_wp2_with (go_at_call 18; refine Hst.out.mono ?_)
  rintro e w2 ⟨rfl, ht2⟩
  go_wp2
  go_ret
  exact ⟨rfl, Ht.out.then ht2⟩
end Go.Proofs.YtbblbolpcdkggaaGreatFmt
/-
  Walks: ref's sign, term.
-/
namespace Go.Proofs.YtbblbolpcdkggaaGreatFmt
open Go.RowKit
def rsign (f neg : Bool) : List UInt8 := if f then (if neg then [45] else []) else if neg then [32, 45, 32] else [32, 43, 32]
def StrIs (l : List UInt8) (w : World) (e : Ending) (w' : World) : Prop := (∃ z : ByteArray, e = .returned (.string z) ∧ z.data.toList = l) ∧ Tch Nil w w'
theorem rsign_any (w : World) (f neg : Bool) :
    Calls Tryz.prog 15 #[.bool f, .int .i64 (if neg then -1 else 1)] w (StrIs (rsign f neg) w) := by
  cases f <;> cases neg <;> simp only [if_true, if_false, Bool.false_eq_true]
  all_goals
    go_enter Tryz.func15, Tryz.ntmps15
    go_wp2
    go_ret
    exact ⟨⟨_, rfl, rfl⟩, Tch.refl _ _⟩
theorem rterm_zero (w : World) (s : ByteArray) : Calls Tryz.prog 16 #[.string s, .int .i64 0] w (StrIs (termOf s.data.toList 0) w) := by
  go_enter Tryz.func16, Tryz.ntmps16
  go_wp2
  go_ret
  exact ⟨⟨_, rfl, by simp [termOf]⟩, Tch.refl _ _⟩
theorem rterm_one (w : World) (s : ByteArray) (hs : s.size < 4294967296) : Calls Tryz.prog 16 #[.string s, .int .i64 1] w (StrIs (termOf s.data.toList 1) w) := by
  cases h1 : (s.toList == [49])
  · have h2 := h1
    rw [ByteArray.toList_eq, beq_eq_false_iff_ne] at h2
    have H2 := Lib.hid h2; clear h2
    go_enter Tryz.func16, Tryz.ntmps16
    go_wp2
    go_ret
    refine ⟨⟨_, rfl, ?_⟩, Tch.refl _ _⟩
    have h2 := H2.out
    first | (unfold termOf; rw [if_pos (.inr h2)]; simp) | simp
  · have h2 := h1
    rw [ByteArray.toList_eq, beq_iff_eq] at h2
    have H2 := Lib.hid h2; clear h2
    go_enter Tryz.func16, Tryz.ntmps16
    go_wp2
    go_ret
    refine ⟨⟨_, rfl, ?_⟩, Tch.refl _ _⟩
    have h2 := H2.out
    rw [h2]; rfl
theorem rterm_more (w : World) (s : ByteArray) (k : Nat) (hs : s.size < 4294967296) (hk : k < 100) (hk1 : 1 < k) : Calls Tryz.prog 16 #[.string s, .int .i64 k] w (StrIs (termOf s.data.toList k) w) := by
  have hds := decDigits_short k hk
  have hd := decimal_any w k hk (by omega)
  have Hd := Lib.hid hd; clear hd
  have hk0 : ((k : Int) == 0) = false := by rw [beq_eq_false_iff_ne]; omega
  cases h1 : (s.toList == [49])
  · have h2 := h1
    rw [ByteArray.toList_eq, beq_eq_false_iff_ne] at h2
    have H2 := Lib.hid h2; clear h2
    go_enter Tryz.func16, Tryz.ntmps16
    go_wp2_with (go_at_call 33; refine Hd.out.mono ?_)
    rintro e w1 ⟨rfl, ht⟩
    go_wp2
    go_ret
    refine ⟨⟨_, rfl, ?_⟩, ht⟩
    have h2 := H2.out
    unfold termOf; rw [if_pos (.inr h2), if_pos (by omega), if_pos (by omega), if_pos hk1]; simp
  · have h2 := h1
    rw [ByteArray.toList_eq, beq_iff_eq] at h2
    have H2 := Lib.hid h2; clear h2
    go_enter Tryz.func16, Tryz.ntmps16
    go_wp2_with (go_at_call 33; refine Hd.out.mono ?_)
    rintro e w1 ⟨rfl, ht⟩
    go_wp2
    go_ret
    refine ⟨⟨_, rfl, ?_⟩, ht⟩
    have h2 := H2.out
    unfold termOf; rw [h2, if_neg (by simp; omega), if_pos (by omega), if_pos hk1]; simp
theorem rterm_any (w : World) (s : ByteArray) (k : Nat) (hs : s.size < 4294967296) (hk : k < 100) : Calls Tryz.prog 16 #[.string s, .int .i64 k] w (StrIs (termOf s.data.toList k) w) := by
  rcases Nat.lt_or_ge 1 k with h | h
  · exact rterm_more w s k hs hk h
  · rcases Nat.eq_zero_or_pos k with rfl | h0
    · exact rterm_zero w s
    · obtain rfl : k = 1 := by omega
      exact rterm_one w s hs
end Go.Proofs.YtbblbolpcdkggaaGreatFmt
/-
  Plain words: the digits of a formed number are its own text; what ref's Print writes at each step.
-/
namespace Go.Proofs.YtbblbolpcdkggaaGreatFmt
open Go.RowKit
theorem dig_back {c : UInt8} (h : Tp.isDig c = true) : UInt8.ofNat (48 + (c.toNat - 48)) = c := by
  have hb := isDig_bounds h
  have e : 48 + (c.toNat - 48) = c.toNat := by omega
  rw [e]; exact UInt8.ofNat_toNat
theorem canon_rev : ∀ (r : List UInt8), r.reverse.all Tp.isDig = true → Tp.lead r.reverse = true → 0 < dv r.reverse ∧ digs (dv r.reverse) = r.reverse := by
  intro r
  induction r with
  | nil => intro _ h; cases h
  | cons c r ih =>
    intro ha hl
    rw [List.reverse_cons] at ha hl ⊢
    rw [List.all_append, Bool.and_eq_true] at ha
    obtain ⟨ha1, ha2⟩ := ha
    have hc : Tp.isDig c = true := by simpa using ha2
    have hb := isDig_bounds hc
    have hd10 : c.toNat - 48 < 10 := by omega
    rw [dv_snoc]
    by_cases hr : r = []
    · subst hr
      have h0 : c ≠ 48 := by simpa [Tp.lead] using hl
      have h1 : c.toNat ≠ 48 := fun e => h0 (by apply UInt8.toNat_inj.1; rw [e]; rfl)
      have hp : 0 < dv ([] : List UInt8).reverse * 10 + (c.toNat - 48) := by omega
      refine ⟨hp, ?_⟩
      rw [digs_step hp]
      have e0 : dv ([] : List UInt8).reverse = 0 := rfl
      rw [e0, Nat.zero_mul, Nat.zero_add, Nat.div_eq_of_lt hd10, Nat.mod_eq_of_lt hd10, dig_back hc]; rfl
    · have hl' : Tp.lead r.reverse = true := by
        have hne : r.reverse ≠ [] := by simpa using hr
        obtain ⟨x, t, hx⟩ := List.exists_cons_of_ne_nil hne
        rw [hx] at hl ⊢
        simpa [Tp.lead] using hl
      obtain ⟨h1, h2⟩ := ih ha1 hl'
      have hp : 0 < dv r.reverse * 10 + (c.toNat - 48) := by omega
      refine ⟨hp, ?_⟩
      rw [digs_step hp, show (dv r.reverse * 10 + (c.toNat - 48)) / 10 = dv r.reverse from by omega, show (dv r.reverse * 10 + (c.toNat - 48)) % 10 = c.toNat - 48 from by omega, dig_back hc, h2]
theorem canon {l : List UInt8} (ha : l.all Tp.isDig = true) (hl : Tp.lead l = true) : 0 < dv l ∧ Lib.decDigits (dv l) = l := by
  have h := canon_rev l.reverse (by rw [List.reverse_reverse]; exact ha) (by rw [List.reverse_reverse]; exact hl)
  rw [List.reverse_reverse] at h
  exact ⟨h.1, by rw [← digs_pos h.1]; exact h.2⟩
theorem trim_bare (s : List UInt8) : Lib.trimPrefix s [45] = Tp.bare s := by
  unfold Lib.trimPrefix Tp.bare
  cases s with
  | nil => rfl
  | cons c t =>
    by_cases h : c = 45
    · subst h; simp [Lib.hasPrefix]
    · have : ¬ 45 = c := fun e : 45 = c => h e.symm
      simp [Lib.hasPrefix, h, this]
theorem bare_ne (s : List UInt8) : (Tp.bare s ≠ s) ↔ negOf s = true := by
  unfold Tp.bare negOf
  cases s with
  | nil => simp
  | cons c t =>
    by_cases h : c = 45
    · subst h; simp
    · simp [h]
/-- What a coefficient that may be handed in says. -/
theorem formed_num {s : List UInt8} (h : Tp.formed s = true) : (s = [48] ∧ dv (Tp.bare s) = 0) ∨ (s ≠ [48] ∧ 0 < dv (Tp.bare s) ∧ Lib.decDigits (dv (Tp.bare s)) = Tp.bare s) := by
  by_cases h0 : s = [48]
  · subst h0; exact .inl ⟨rfl, rfl⟩
  · right
    unfold Tp.formed at h
    rw [Bool.or_eq_true] at h
    rcases h with h | h
    · exact absurd (by simpa using h) h0
    · rw [Bool.and_eq_true] at h
      exact ⟨h0, canon h.1 h.2⟩
theorem step_ref (acc s : List UInt8) (k : Nat) (h : s ≠ [48]) : printStep acc s k = acc ++ rsign (acc == []) (negOf s) ++ termOf (Tp.bare s) k := by
  unfold printStep signOf rsign
  rw [if_neg h, trim_bare]
  have hb := bare_ne s
  congr 2
  cases hn : negOf s
  · have : ¬ (Tp.bare s ≠ s) := by rw [hb, hn]; simp
    by_cases ha : acc = [] <;> simp [ha, this]
  · have : (Tp.bare s ≠ s) := by rw [hb, hn]
    by_cases ha : acc = [] <;> simp [ha, this]
theorem prT_grows (ls : List (List UInt8)) (i : Nat) : ∀ d, (prT ls i).length ≤ (prT ls (i + d)).length := by
  intro d
  induction d with
  | zero => exact Nat.le_refl _
  | succ d ih =>
    refine Nat.le_trans ih ?_
    show _ ≤ (printStep (prT ls (i + d)) _ _).length
    unfold printStep; split
    · exact Nat.le_refl _
    · rw [List.length_append, List.length_append]; omega
/-- What the walk of ref's Print leans on. -/
structure RpFacts (w : World) (b off n : Nat) (ls : List (List UInt8)) : Prop where
  small : n ≤ 65
  round : ∀ j, j < n → ∃ m s, n = j + m + 1 ∧ w.cell? ⟨b, off + m, none⟩ = some (.string s) ∧ Tp.formed s.data.toList = true ∧ (Tp.bare s.data.toList).length ≤ 20000 ∧ prT ls (j + 1) = printStep (prT ls j) s.data.toList m
  long : ∀ j, j ≤ n → 65536 < (prT ls j).length → printRes ls = ([], 290)
  res : (prT ls n).length ≤ 65536 → printRes ls = (if prT ls n = [] then [48] else prT ls n, 0)
theorem rpFacts {w : World} {b off : Nat} {ss : List ByteArray} (hst : StrsAt w b off ss) (hc : polyCode (lists ss) = 0) : RpFacts w b off ss.length (lists ss) := by
  have hll : (lists ss).length = ss.length := by unfold lists; rw [List.length_map]
  obtain ⟨h65, hall⟩ := poly_ok hc
  rw [hll] at h65
  refine ⟨h65, ?_, ?_, ?_⟩
  · intro j hj
    have hm : ss.length - (j + 1) < ss.length := by omega
    have h := hall (ss[ss.length - (j + 1)]).data.toList (List.mem_map.2 ⟨_, List.getElem_mem hm, rfl⟩)
    refine ⟨ss.length - (j + 1), ss[ss.length - (j + 1)], by omega, hst _ hm, h.1, h.2, ?_⟩
    have hl : lastOf (lists ss) j = (ss[ss.length - (j + 1)]).data.toList := by
      unfold lastOf; rw [hll]; unfold lists
      rw [List.getD_eq_getElem?_getD, List.getElem?_map, List.getElem?_eq_getElem hm]; rfl
    rw [← hl, ← hll]; rfl
  · intro j hj hlong
    obtain ⟨d, hd⟩ : ∃ d, ss.length = j + d := ⟨ss.length - j, by omega⟩
    have h := prT_grows (lists ss) j d
    rw [← hd] at h
    unfold printRes; rw [if_neg (by simpa using hc), hll]
    have hne : prT (lists ss) ss.length ≠ [] := by intro e; rw [e, List.length_nil] at h; omega
    rw [if_neg hne, if_pos (by omega)]
  · intro h
    unfold printRes; rw [if_neg (by simpa using hc), hll, if_neg]
    split
    · simp
    · omega
end Go.Proofs.YtbblbolpcdkggaaGreatFmt
