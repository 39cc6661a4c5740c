/-
  Walks: text.term.
-/
import Derived.Test.YtbblbolpcdkggaaGreatFmtA7
import Derived.Test.YtbblbolpcdkggaaGreatFmtA3
import Derived.ShutString
namespace Go.Proofs.YtbblbolpcdkggaaGreatFmt
open Go.RowKit
theorem decDigits_short : ∀ k, k < 100 → (Lib.decDigits k).length ≤ 2 := by decide +kernel
/-- What text.term writes. -/
def termOf (size : List UInt8) (k : Nat) : List UInt8 :=
  (if k = 0 ∨ size ≠ [49] then size ++ (if 0 < k then [42] else []) else []) ++ (if 0 < k then [120] else []) ++ (if 1 < k then 94 :: Lib.decDigits k else [])
theorem bytes_app (a b : List UInt8) : Lib.byteCells (a ++ b) = Lib.byteCells a ++ Lib.byteCells b := by unfold Lib.byteCells; rw [List.map_append]
theorem bytes_len (a : List UInt8) : (Lib.byteCells a).length = a.length := by unfold Lib.byteCells; rw [List.length_map]
theorem bytes_snoc (a : List UInt8) (c : UInt8) : Lib.byteCells a ++ [.int .u8 c.toNat] = Lib.byteCells (a ++ [c]) := by rw [bytes_app]; rfl
def BldOf (B b : Nat) (l : List UInt8) (r : Ending) (w : World) (e : Ending) (w' : World) : Prop := e = r ∧ Lib.IsBuilder 52 5 B b (Lib.byteCells l) w' ∧ Below B w w'
theorem writeB (B b : Nat) (l : List UInt8) (c : Int) (d : UInt8) (hc : c = d.toNat) (w : World) (h : Lib.IsBuilder 52 5 B b (Lib.byteCells l) w) (hlen : l.length + 1 ≤ 140737488355328) (hBw : B ≤ w.heap.size) :
    Calls Tryz.prog 23 #[.pointer (some ⟨b, 0, none⟩), .int .u8 c] w (BldOf B b (l ++ [d]) (.returned .nilIface) w) := by
  subst hc
  refine (writeByte_any B b _ _ w h (by rw [bytes_len]; exact hlen) hBw).mono ?_
  rintro e w' ⟨rfl, h1, h2⟩
  rw [bytes_snoc] at h1
  exact ⟨rfl, .inr h1, h2⟩
theorem writeS (B b : Nat) (l : List UInt8) (s : ByteArray) (w : World) (h : Lib.IsBuilder 52 5 B b (Lib.byteCells l) w) (hlen : l.length + s.size ≤ 140737488355328) (hBw : B ≤ w.heap.size) :
    Calls Tryz.prog 24 #[.pointer (some ⟨b, 0, none⟩), .string s] w (BldOf B b (l ++ s.data.toList) (.returned (.tuple #[.int .i64 s.size, .nilIface])) w) := by
  refine (writeString_any B b _ s w h (by rw [bytes_len]; exact hlen) hBw).mono ?_
  rintro e w' ⟨rfl, h1, h2⟩
  rw [← bytes_app] at h1
  exact ⟨rfl, .inr h1, h2⟩
set_option maxHeartbeats 1000000 in
theorem term_zero (B b : Nat) (l : List UInt8) (s : ByteArray) (w : World) (h : Lib.IsBuilder 52 5 B b (Lib.byteCells l) w) (hlen : l.length + s.size + 100 ≤ 140737488355328) (hBw : B ≤ w.heap.size) :
    Calls Tryz.prog 25 #[.pointer (some ⟨b, 0, none⟩), .string s, .int .i64 0] w (BldOf B b (l ++ termOf s.data.toList 0) (.returned (.tuple #[])) w) := by
  have hfin : termOf s.data.toList 0 = s.data.toList := by simp [termOf]
  have Hfin := Lib.hid hfin; clear hfin
  have H := Lib.hid h; clear h
  go_enter Tryz.func25, Tryz.ntmps25
  go_wp2_with fail
  refine (writeS B b l s w H.out (by omega) hBw).mono ?_
  rintro e w1 ⟨rfl, h1, hb1⟩
  go_wp2
  go_end0
  exact ⟨rfl, by rw [Hfin.out]; exact h1, hb1⟩
set_option maxHeartbeats 1000000 in
theorem term_x (B b : Nat) (l : List UInt8) (s : ByteArray) (w : World) (h : Lib.IsBuilder 52 5 B b (Lib.byteCells l) w) (hlen : l.length + s.size + 100 ≤ 140737488355328) (hBw : B ≤ w.heap.size) (h1 : (s.toList == [49]) = true) :
    Calls Tryz.prog 25 #[.pointer (some ⟨b, 0, none⟩), .string s, .int .i64 1] w (BldOf B b (l ++ termOf s.data.toList 1) (.returned (.tuple #[])) w) := by
  have hfin : termOf s.data.toList 1 = [120] := by rw [ByteArray.toList_eq, beq_iff_eq] at h1; simp [termOf, h1]
  have Hfin := Lib.hid hfin; clear hfin
  have H := Lib.hid h; clear h
  have hb1 : (s.toList != [49]) = false := by rw [bne, h1]; rfl
  go_enter Tryz.func25, Tryz.ntmps25
  go_wp2_with fail
  refine (writeB B b l _ 120 rfl w H.out (by omega) hBw).mono ?_
  rintro e w1 ⟨rfl, h1, hb1⟩
  go_wp2
  go_end0
  exact ⟨rfl, by rw [Hfin.out]; exact h1, hb1⟩
set_option maxHeartbeats 1000000 in
theorem term_sx (B b : Nat) (l : List UInt8) (s : ByteArray) (w : World) (h : Lib.IsBuilder 52 5 B b (Lib.byteCells l) w) (hlen : l.length + s.size + 100 ≤ 140737488355328) (hBw : B ≤ w.heap.size) (h1 : (s.toList == [49]) = false) :
    Calls Tryz.prog 25 #[.pointer (some ⟨b, 0, none⟩), .string s, .int .i64 1] w (BldOf B b (l ++ termOf s.data.toList 1) (.returned (.tuple #[])) w) := by
  have hfin : l ++ s.data.toList ++ [42] ++ [120] = l ++ termOf s.data.toList 1 := by rw [ByteArray.toList_eq, beq_eq_false_iff_ne] at h1; simp [termOf, h1]
  have hsl := Tp.len_data s
  have hl1 : (l ++ s.data.toList).length = l.length + s.size := by rw [List.length_append, hsl]
  have Hfin := Lib.hid hfin; clear hfin
  have Hl1 := Lib.hid hl1; clear hl1 hsl
  have H := Lib.hid h; clear h
  have hb1 : (s.toList != [49]) = true := by rw [bne, h1]; rfl
  go_enter Tryz.func25, Tryz.ntmps25
  go_wp2_with fail
  refine (writeS B b l s w H.out (by omega) hBw).mono ?_
  rintro e w1 ⟨rfl, k1, hb1⟩
  have hz1 := hb1.size
  go_wp2_with fail
  refine (writeB B b _ _ 42 rfl w1 k1 (by rw [Hl1.out]; omega) (by omega)).mono ?_
  rintro e w2 ⟨rfl, k2, hb2⟩
  have hz2 := hb2.size
  go_wp2_with fail
  refine (writeB B b _ _ 120 rfl w2 k2 (by rw [List.length_append, Hl1.out]; simp; omega) (by omega)).mono ?_
  rintro e w3 ⟨rfl, k3, hb3⟩
  go_wp2
  go_end0
  exact ⟨rfl, by rw [← Hfin.out]; exact k3, (hb1.trans hb2).trans hb3⟩
set_option maxHeartbeats 1000000 in
theorem term_xk (B b : Nat) (l : List UInt8) (s : ByteArray) (k : Nat) (w : World) (h : Lib.IsBuilder 52 5 B b (Lib.byteCells l) w) (hlen : l.length + s.size + 100 ≤ 140737488355328) (hBw : B ≤ w.heap.size) (h1 : (s.toList == [49]) = true)
    (hk : 1 < k) (hk2 : k < 100) (hdl : (Lib.decDigits k).length ≤ 2) :
    Calls Tryz.prog 25 #[.pointer (some ⟨b, 0, none⟩), .string s, .int .i64 k] w (BldOf B b (l ++ termOf s.data.toList k) (.returned (.tuple #[])) w) := by
  have hfin : l ++ [120] ++ [94] ++ Lib.decDigits k = l ++ termOf s.data.toList k := by
    rw [ByteArray.toList_eq, beq_iff_eq] at h1
    unfold termOf; rw [h1, if_neg (by simp; omega), if_pos (by omega), if_pos hk]; simp
  have Hfin := Lib.hid hfin; clear hfin
  have H := Lib.hid h; clear h
  have hb1 : (s.toList != [49]) = false := by rw [bne, h1]; rfl
  have hk0 : ((k : Int) == 0) = false := by rw [beq_eq_false_iff_ne]; omega
  go_enter Tryz.func25, Tryz.ntmps25
  go_wp2_with fail
  refine (writeB B b l _ 120 rfl w H.out (by omega) hBw).mono ?_
  rintro e w1 ⟨rfl, k1, hb1⟩
  have hz1 := hb1.size
  go_wp2_with fail
  refine (writeB B b _ _ 94 rfl w1 k1 (by simp; omega) (by omega)).mono ?_
  rintro e w2 ⟨rfl, k2, hb2⟩
  have hz2 := hb2.size
  go_wp2_with fail
  refine (Tryz.strconv_Itoa_small k hk2 w2).mono ?_
  rintro e w2' ⟨rfl, rfl⟩
  go_wp2_with fail
  refine (writeS B b _ ⟨(Lib.decDigits k).toArray⟩ w2' k2 (by rw [size_of_list]; simp; omega) (by omega)).mono ?_
  rintro e w3 ⟨rfl, k3, hb3⟩
  go_wp2
  go_end0
  exact ⟨rfl, by rw [← Hfin.out]; exact k3, (hb1.trans hb2).trans hb3⟩
set_option maxHeartbeats 1000000 in
theorem term_sxk (B b : Nat) (l : List UInt8) (s : ByteArray) (k : Nat) (w : World) (h : Lib.IsBuilder 52 5 B b (Lib.byteCells l) w) (hlen : l.length + s.size + 100 ≤ 140737488355328) (hBw : B ≤ w.heap.size) (h1 : (s.toList == [49]) = false)
    (hk : 1 < k) (hk2 : k < 100) (hdl : (Lib.decDigits k).length ≤ 2) :
    Calls Tryz.prog 25 #[.pointer (some ⟨b, 0, none⟩), .string s, .int .i64 k] w (BldOf B b (l ++ termOf s.data.toList k) (.returned (.tuple #[])) w) := by
  have hfin : l ++ s.data.toList ++ [42] ++ [120] ++ [94] ++ Lib.decDigits k = l ++ termOf s.data.toList k := by
    rw [ByteArray.toList_eq, beq_eq_false_iff_ne] at h1
    unfold termOf; rw [if_pos (.inr h1), if_pos (by omega), if_pos (by omega), if_pos hk]; simp
  have hsl := Tp.len_data s
  have hl1 : (l ++ s.data.toList).length = l.length + s.size := by rw [List.length_append, hsl]
  have Hfin := Lib.hid hfin; clear hfin
  have Hl1 := Lib.hid hl1; clear hl1 hsl
  have H := Lib.hid h; clear h
  have hb1 : (s.toList != [49]) = true := by rw [bne, h1]; rfl
  have hk0 : ((k : Int) == 0) = false := by rw [beq_eq_false_iff_ne]; omega
  go_enter Tryz.func25, Tryz.ntmps25
  go_wp2_with fail
  refine (writeS B b l s w H.out (by omega) hBw).mono ?_
  rintro e w0 ⟨rfl, k0, hb0⟩
  have hz0 := hb0.size
  go_wp2_with fail
  refine (writeB B b _ _ 42 rfl w0 k0 (by rw [Hl1.out]; omega) (by omega)).mono ?_
  rintro e w00 ⟨rfl, k00, hb00⟩
  have hz00 := hb00.size
  go_wp2_with fail
  refine (writeB B b _ _ 120 rfl w00 k00 (by rw [List.length_append, Hl1.out]; simp; omega) (by omega)).mono ?_
  rintro e w1 ⟨rfl, k1, hb1⟩
  have hz1 := hb1.size
  go_wp2_with fail
  refine (writeB B b _ _ 94 rfl w1 k1 (by rw [List.length_append, List.length_append, Hl1.out]; simp; omega) (by omega)).mono ?_
  rintro e w2 ⟨rfl, k2, hb2⟩
  have hz2 := hb2.size
  go_wp2_with fail
  refine (Tryz.strconv_Itoa_small k hk2 w2).mono ?_
  rintro e w2' ⟨rfl, rfl⟩
  go_wp2_with fail
  refine (writeS B b _ ⟨(Lib.decDigits k).toArray⟩ w2' k2 (by rw [size_of_list, List.length_append, List.length_append, List.length_append, Hl1.out]; simp; omega) (by omega)).mono ?_
  rintro e w3 ⟨rfl, k3, hb3⟩
  go_wp2
  go_end0
  exact ⟨rfl, by rw [← Hfin.out]; exact k3, ((((hb0.trans hb00).trans hb1).trans hb2)).trans hb3⟩
theorem term_any (B b : Nat) (l : List UInt8) (s : ByteArray) (k : Nat) (w : World) (h : Lib.IsBuilder 52 5 B b (Lib.byteCells l) w) (hlen : l.length + s.size + 100 ≤ 140737488355328) (hBw : B ≤ w.heap.size)
    (hk2 : k < 100) :
    Calls Tryz.prog 25 #[.pointer (some ⟨b, 0, none⟩), .string s, .int .i64 k] w (BldOf B b (l ++ termOf s.data.toList k) (.returned (.tuple #[])) w) := by
  have hdl : (Lib.decDigits k).length ≤ 2 := decDigits_short k hk2
  by_cases h0 : k = 0
  · subst h0; exact term_zero B b l s w h hlen hBw
  by_cases h1 : k = 1
  · subst h1
    cases hs : (s.toList == [49])
    · exact term_sx B b l s w h hlen hBw hs
    · exact term_x B b l s w h hlen hBw hs
  · cases hs : (s.toList == [49])
    · exact term_sxk B b l s k w h hlen hBw hs (by omega) hk2 hdl
    · exact term_xk B b l s k w h hlen hBw hs (by omega) hk2 hdl
end Go.Proofs.YtbblbolpcdkggaaGreatFmt
/-
  The plain words of Print: what the program writes, step by step; bounds on its length.
-/
namespace Go.Proofs.YtbblbolpcdkggaaGreatFmt
open Go.RowKit
def lastOf (ls : List (List UInt8)) (j : Nat) : List UInt8 := ls.getD (ls.length - (j + 1)) []
def signOf (acc s : List UInt8) : List UInt8 := if acc = [] then (if Lib.trimPrefix s [45] ≠ s then [45] else []) else if Lib.trimPrefix s [45] ≠ s then [32, 45, 32] else [32, 43, 32]
def printStep (acc s : List UInt8) (k : Nat) : List UInt8 := if s = [48] then acc else acc ++ signOf acc s ++ termOf (Lib.trimPrefix s [45]) k
/-- The text behind the j highest coefficients. -/
def prT (ls : List (List UInt8)) : Nat → List UInt8
  | 0 => []
  | j + 1 => printStep (prT ls j) (lastOf ls j) (ls.length - (j + 1))
def printRes (ls : List (List UInt8)) : List UInt8 × Int :=
  if polyCode ls ≠ 0 then ([], polyCode ls)
  else if (if prT ls ls.length = [] then [48] else prT ls ls.length).length > 65536 then ([], 290) else (if prT ls ls.length = [] then [48] else prT ls ls.length, 0)
theorem worst_zero {a b : Int} (h : worst a b = 0) : a = 0 ∧ b = 0 := by
  unfold worst at h
  split at h
  · cases h
  · split at h <;> omega
theorem fold_zero : ∀ (l : List (List UInt8)) (c : Int), l.foldl (fun c s => worst c (whole s)) c = 0 → c = 0 ∧ ∀ s ∈ l, whole s = 0 := by
  intro l
  induction l with
  | nil => intro c h; exact ⟨h, fun s hs => by cases hs⟩
  | cons x l ih =>
    intro c h
    obtain ⟨h1, h2⟩ := ih _ h
    obtain ⟨h3, h4⟩ := worst_zero h1
    exact ⟨h3, fun s hs => by
      rcases List.mem_cons.1 hs with rfl | hs
      · exact h4
      · exact h2 s hs⟩
/-- What a polynomial that may be handed in is. -/
theorem poly_ok {ls : List (List UInt8)} (h : polyCode ls = 0) : ls.length ≤ 65 ∧ ∀ s ∈ ls, Tp.formed s = true ∧ (Tp.bare s).length ≤ 20000 := by
  unfold polyCode at h
  split at h
  · cases h
  · split at h
    · exact absurd (worst_zero h).2 (by decide)
    · refine ⟨by omega, fun s hs => ?_⟩
      have hw := (fold_zero ls 0 h).2 s hs
      unfold whole at hw
      split at hw
      · rename_i hf
        split at hw
        · cases hw
        · exact ⟨hf, by omega⟩
      · cases hw
theorem bare_length (s : List UInt8) : s.length ≤ (Tp.bare s).length + 1 := by
  unfold Tp.bare; split
  · rw [List.length_tail]; omega
  · omega
theorem trim_length (s : List UInt8) : (Lib.trimPrefix s [45]).length ≤ s.length := by
  unfold Lib.trimPrefix; split
  · rw [List.length_drop]; omega
  · omega
theorem termOf_length (s : List UInt8) (k : Nat) (hk : k < 100) : (termOf s k).length ≤ s.length + 10 := by
  have := decDigits_short k hk
  unfold termOf
  repeat' split
  all_goals simp
  all_goals omega
theorem step_length (acc s : List UInt8) (k : Nat) (hk : k < 100) : (printStep acc s k).length ≤ acc.length + s.length + 20 := by
  have h1 := termOf_length (Lib.trimPrefix s [45]) k hk
  have h2 := trim_length s
  unfold printStep signOf
  repeat' split
  all_goals simp
  all_goals omega
theorem prT_length (ls : List (List UInt8)) (h : ls.length ≤ 65) (hs : ∀ s ∈ ls, s.length ≤ 20001) : ∀ j, j ≤ ls.length → (prT ls j).length ≤ 30000 * j := by
  intro j
  induction j with
  | zero => intro _; exact Nat.le_refl _
  | succ j ih =>
    intro hj
    have h1 := ih (by omega)
    have h2 := step_length (prT ls j) (lastOf ls j) (ls.length - (j + 1)) (by omega)
    have h3 : (lastOf ls j).length ≤ 20001 := by
      unfold lastOf
      rw [List.getD_eq_getElem?_getD, List.getElem?_eq_getElem (by omega)]
      exact hs _ (List.getElem_mem _)
    show (printStep _ _ _).length ≤ _
    omega
end Go.Proofs.YtbblbolpcdkggaaGreatFmt
/-
  Walks: text.Print.
-/
namespace Go.Proofs.YtbblbolpcdkggaaGreatFmt
open Go.RowKit
theorem lenB (B b : Nat) (l : List UInt8) (w : World) (h : Lib.IsBuilder 52 5 B b (Lib.byteCells l) w) :
    Calls Tryz.prog 22 #[.pointer (some ⟨b, 0, none⟩)] w fun e w' => e = .returned (.int .i64 l.length) ∧ w = w' := by
  refine (Tryz.Builder_Len B b _ w h).mono ?_
  rintro e w' ⟨rfl, rfl⟩
  exact ⟨by rw [bytes_len], rfl⟩
theorem trimB (s : ByteArray) (w : World) : Calls Tryz.prog 21 #[.string s, .string ⟨#[45]⟩] w fun e w' => (∃ z : ByteArray, e = .returned (.string z) ∧ z.data.toList = Lib.trimPrefix s.data.toList [45]) ∧ w = w' := by
  refine (Tryz.strings_TrimPrefix s ⟨#[45]⟩ w).mono ?_
  rintro e w' ⟨rfl, rfl⟩
  exact ⟨⟨_, rfl, rfl⟩, rfl⟩
def PrRel (w : World) (b n : Nat) (ls : List (List UInt8)) (i : Value) (wr : World) : Prop :=
  ∃ j : Nat, j ≤ n ∧ i = .int .i64 ((n : Int) - 1 - j) ∧ Lib.IsBuilder 52 5 w.heap.size b (Lib.byteCells (prT ls j)) wr ∧ Below w.heap.size w wr
def PrintOut (w : World) (r : List UInt8 × Int) (e : Ending) (w' : World) : Prop := e = .returned (.tuple #[.string ⟨r.1.toArray⟩, .int .i64 r.2]) ∧ Below w.heap.size w w'
set_option maxRecDepth 100000 in
set_option maxHeartbeats 1000000 in
theorem print_no (w : World) (g cap : Nat) (ss : List ByteArray) (a : Addr) (hg : g < w.heap.size) (hst : Strs w g ss) (hsz : ∀ s ∈ ss, s.size ≤ maxLen) (hn : ss.length * 16 ≤ 140737488355328) (hcap : ss.length ≤ cap)
    (hE : w.cell? ⟨0, 0, none⟩ = some (.iface 243 (.pointer (some a)))) (hc : polyCode (lists ss) ≠ 0) :
    Calls Tryz.prog 7 #[.slice (some ⟨g, 0, none⟩) ss.length cap] w (PrintOut w (printRes (lists ss))) := by
  have hfin : printRes (lists ss) = ([], polyCode (lists ss)) := by unfold printRes; rw [if_pos hc]
  have Hfin := Lib.hid hfin; clear hfin
  have hb : (polyCode (lists ss) != 0) = true := by rw [bne_iff_ne]; exact hc
  have Hst := Lib.hid hst; clear hst
  have HE := Lib.hid hE; clear hE
  go_enter Tryz.func7, Tryz.ntmps7
  go_wp2_with fail
  refine (poly_any w g cap ss a hg Hst.out hsz hn hcap HE.out).mono ?_
  rintro e w1 ⟨v, rfl, ht⟩
  go_wp2
  go_ret2
  exact ⟨by rw [Hfin.out]; rfl, ht.whole⟩
theorem step_of {acc sg : List UInt8} {s z : ByteArray} {m : Nat} (hs0 : (s.toList == [48]) = false) (hz : z.data.toList = Lib.trimPrefix s.data.toList [45]) (hsg : signOf acc s.data.toList = sg) :
    printStep acc s.data.toList m = acc ++ sg ++ termOf z.data.toList m := by
  rw [ByteArray.toList_eq, beq_eq_false_iff_ne] at hs0
  unfold printStep; rw [if_neg hs0, hsg, hz]
theorem same_iff {s z : ByteArray} (hz : z.data.toList = Lib.trimPrefix s.data.toList [45]) (b : Bool) (h : (z.toList == s.toList) = b) : (Lib.trimPrefix s.data.toList [45] ≠ s.data.toList) ↔ b = false := by
  rw [ByteArray.toList_eq, ByteArray.toList_eq, hz] at h
  subst h; simp
theorem sign_11 {acc : List UInt8} {s z : ByteArray} (ha : acc = []) (hz : z.data.toList = Lib.trimPrefix s.data.toList [45]) (h : (z.toList == s.toList) = true) : signOf acc s.data.toList = [] := by
  unfold signOf; rw [if_pos ha, if_neg (by rw [same_iff hz _ h]; simp)]
theorem sign_10 {acc : List UInt8} {s z : ByteArray} (ha : acc = []) (hz : z.data.toList = Lib.trimPrefix s.data.toList [45]) (h : (z.toList == s.toList) = false) : signOf acc s.data.toList = [45] := by
  unfold signOf; rw [if_pos ha, if_pos (by rw [same_iff hz _ h])]
theorem sign_01 {acc : List UInt8} {s z : ByteArray} (ha : acc ≠ []) (hz : z.data.toList = Lib.trimPrefix s.data.toList [45]) (h : (z.toList == s.toList) = true) : signOf acc s.data.toList = [32, 43, 32] := by
  unfold signOf; rw [if_neg ha, if_neg (by rw [same_iff hz _ h]; simp)]
theorem sign_00 {acc : List UInt8} {s z : ByteArray} (ha : acc ≠ []) (hz : z.data.toList = Lib.trimPrefix s.data.toList [45]) (h : (z.toList == s.toList) = false) : signOf acc s.data.toList = [32, 45, 32] := by
  unfold signOf; rw [if_neg ha, if_pos (by rw [same_iff hz _ h])]
theorem zsize {s z : ByteArray} (hz : z.data.toList = Lib.trimPrefix s.data.toList [45]) (hs : s.size ≤ 20001) : z.size ≤ 20001 := by
  have h := trim_length s.data.toList
  rw [← hz, Tp.len_data, Tp.len_data] at h; omega
/-- What the walk leans on. -/
structure PrFacts (w : World) (g n : Nat) (ls : List (List UInt8)) : Prop where
  small : n ≤ 65
  long : ∀ j, j ≤ n → (prT ls j).length ≤ 30000 * j
  round : ∀ j, j < n → ∃ m s, n = j + m + 1 ∧ w.cell? ⟨g, m, none⟩ = some (.string s) ∧ s.size ≤ 20001 ∧ prT ls (j + 1) = printStep (prT ls j) s.data.toList m
  res : printRes ls = if (if prT ls n = [] then [48] else prT ls n).length > 65536 then ([], 290) else (if prT ls n = [] then [48] else prT ls n, 0)
theorem prFacts {w : World} {g : Nat} {ss : List ByteArray} (hst : Strs w g ss) (hc : polyCode (lists ss) = 0) : PrFacts w g ss.length (lists ss) := by
  have hll : (lists ss).length = ss.length := by unfold lists; rw [List.length_map]
  obtain ⟨h65, hall⟩ := poly_ok hc
  rw [hll] at h65
  have hsz : ∀ s ∈ ss, s.size ≤ 20001 := fun s hs => by
    have h := (hall s.data.toList (List.mem_map.2 ⟨s, hs, rfl⟩)).2
    have h2 := bare_length s.data.toList
    rw [Tp.len_data] at h2; omega
  refine ⟨h65, ?_, ?_, ?_⟩
  · have h := prT_length (lists ss) (by rw [hll]; exact h65) (fun s hs => by
      have h := (hall s hs).2
      have h2 := bare_length s
      omega)
    rw [hll] at h; exact h
  · intro j hj
    have hm : ss.length - (j + 1) < ss.length := by omega
    refine ⟨ss.length - (j + 1), ss[ss.length - (j + 1)], by omega, hst _ hm, hsz _ (List.getElem_mem hm), ?_⟩
    have hl : lastOf (lists ss) j = (ss[ss.length - (j + 1)]).data.toList := by
      unfold lastOf; rw [hll]; unfold lists
      rw [List.getD_eq_getElem?_getD, List.getElem?_map, List.getElem?_eq_getElem hm]; rfl
    rw [← hl, ← hll]; rfl
  · unfold printRes; rw [if_neg (by simpa using hc), hll]
set_option maxRecDepth 100000 in
set_option maxHeartbeats 2000000 in
theorem print_ok (w : World) (g cap : Nat) (ss : List ByteArray) (a : Addr) (hg : g < w.heap.size) (hst : Strs w g ss) (hsz : ∀ s ∈ ss, s.size ≤ maxLen) (hcap : ss.length ≤ cap)
    (hE : w.cell? ⟨0, 0, none⟩ = some (.iface 243 (.pointer (some a)))) (hc : polyCode (lists ss) = 0) :
    Calls Tryz.prog 7 #[.slice (some ⟨g, 0, none⟩) ss.length cap] w (PrintOut w (printRes (lists ss))) := by
  have hF := prFacts hst hc
  have hn65 := hF.small
  have hp0 := poly_any w g cap ss a hg hst hsz (by omega) hcap hE
  have Hp := Lib.hid hp0; clear hp0 hst hsz hE
  have HF := Lib.hid hF; clear hF
  have Hc := Lib.hid hc; clear hc
  generalize lists ss = ls at *
  generalize ss.length = n at *
  clear ss
  go_enter Tryz.func7, Tryz.ntmps7
  go_wp2_with fail
  refine (by rw [← Hc.out]; exact Hp.out : Calls Tryz.prog 20 #[.slice (some ⟨g, 0, none⟩) n cap] w (PolyOut w 0)).mono ?_
  rintro e w1 ⟨v, rfl, ht⟩
  have hz1 := ht.size
  have Ht := Lib.hid ht; clear ht
  go_wp2
  generalize hb : w1.heap.size = b at *
  have hb0 : Lib.IsBuilder 52 5 w.heap.size b (Lib.byteCells (prT ls 0)) (w1.alloc (.cells #[.pointer none, .slice none 0 0] 52)) := by
    subst hb
    exact .inl ⟨hz1, .slice none 0 0, heap_alloc_new w1 _, World.ownsRow_nil _ _ _ _, by simp [Value.ownBlock]⟩
  have hbw0 : Below w.heap.size w (w1.alloc (.cells #[.pointer none, .slice none 0 0] 52)) := Ht.out.whole.alloc (by omega) _
  have Hb := Lib.hid hb; clear hb
  have Hb0 := Lib.hid hb0; clear hb0
  have Hbw0 := Lib.hid hbw0; clear hbw0
  go_loopw [7] (fun i wr => PrRel w b n ls i wr) (fun i _ => (intOf i + 1).toNat)
  case atStart => exact ⟨0, Nat.zero_le _, int_eq (by omega), Hb0.out, Hbw0.out⟩
  case round =>
    obtain ⟨j, hj, rfl, hB, hbw⟩ := hrel
    have hzr := hbw.size
    have hlong := HF.out.long j hj
    have HB := Lib.hid hB; clear hB
    have Hbw := Lib.hid hbw; clear hbw
    by_cases hlt : j < n
    · obtain ⟨m, s, hnm, hcm, hs, hst⟩ := HF.out.round j hlt
      have hcr := (Hbw.out.cell (p := ⟨g, m, none⟩) hg).trans hcm
      have ei : (n : Int) - 1 - j = (m : Int) := by omega
      rw [ei]
      have Hcm := Lib.hid hcm; clear hcm
      have Hst := Lib.hid hst; clear hst
      have Hei := Lib.hid ei; clear ei
      have Hnm := Lib.hid hnm; clear hnm
      have hm100 : m < 100 := by have := Hnm.out; omega
      have hmn : m < n := by have := Hnm.out; omega
      cases hs0 : (s.toList == [48])
      · go_wp2_with fail
        refine (trimB s wr).mono ?_
        rintro e w' ⟨⟨z, rfl, hz⟩, rfl⟩
        have Hz := Lib.hid hz; clear hz
        cases hbl : (z.toList == s.toList)
        · have hbn : (z.toList != s.toList) = true := by rw [bne, hbl]; rfl
          by_cases hacc : prT ls j = []
          ·
            have h0 : (((prT ls j).length : Int) == 0) = true := by rw [hacc]; rfl
            have h1 : ¬ 0 < (prT ls j).length := by rw [hacc]; simp
            have hfin : prT ls (j + 1) = prT ls j ++ [45] ++ termOf z.data.toList m := by rw [Hst.out]; exact step_of hs0 Hz.out (sign_10 hacc Hz.out hbl)
            have Hacc := Lib.hid hacc; clear hacc
            have Hfin := Lib.hid hfin; clear hfin
            generalize prT ls j = acc at *
            go_wp2_with (go_at_call 22; refine (lenB _ _ acc _ HB.out).mono ?_; rintro e w' ⟨rfl, rfl⟩)
            refine (writeB w.heap.size b acc _ 45 rfl wr HB.out (by omega) hzr).mono ?_
            rintro e w3 ⟨rfl, hB3, hb3⟩
            have hz3 := hb3.size
            go_wp2_with fail
            refine (term_any w.heap.size b _ z m w3 hB3 (by have := zsize Hz.out hs; simp; omega) (by omega) hm100).mono ?_
            rintro e w4 ⟨rfl, hB4, hb4⟩
            go_wp2
            go_roundw
            case rel => exact ⟨j + 1, by omega, int_eq (by have := Hei.out; omega), by rw [Hfin.out]; exact hB4, (Hbw.out.trans hb3).trans hb4⟩
            case measure => simp [intOf] <;> omega
          ·
            have hpos : 0 < (prT ls j).length := List.length_pos_iff.2 hacc
            have h0 : (((prT ls j).length : Int) == 0) = false := by rw [beq_eq_false_iff_ne]; omega
            have hfin : prT ls (j + 1) = prT ls j ++ [32, 45, 32] ++ termOf z.data.toList m := by rw [Hst.out]; exact step_of hs0 Hz.out (sign_00 hacc Hz.out hbl)
            have Hacc := Lib.hid hacc; clear hacc
            have Hfin := Lib.hid hfin; clear hfin
            generalize prT ls j = acc at *
            go_wp2_with (go_at_call 22; refine (lenB _ _ acc _ HB.out).mono ?_; rintro e w' ⟨rfl, rfl⟩)
            refine (writeS w.heap.size b acc _ wr HB.out (by show acc.length + 3 ≤ _; omega) hzr).mono ?_
            rintro e w3 ⟨rfl, hB3, hb3⟩
            have hz3 := hb3.size
            go_wp2_with fail
            refine (term_any w.heap.size b _ z m w3 hB3 (by have := zsize Hz.out hs; simp; omega) (by omega) hm100).mono ?_
            rintro e w4 ⟨rfl, hB4, hb4⟩
            go_wp2
            go_roundw
            case rel => exact ⟨j + 1, by omega, int_eq (by have := Hei.out; omega), by rw [Hfin.out]; exact hB4, (Hbw.out.trans hb3).trans hb4⟩
            case measure => simp [intOf] <;> omega
        · have hbn : (z.toList != s.toList) = false := by rw [bne, hbl]; rfl
          by_cases hacc : prT ls j = []
          ·
            have h0 : (((prT ls j).length : Int) == 0) = true := by rw [hacc]; rfl
            have h1 : ¬ 0 < (prT ls j).length := by rw [hacc]; simp
            have hfin : prT ls (j + 1) = prT ls j ++ [] ++ termOf z.data.toList m := by rw [Hst.out]; exact step_of hs0 Hz.out (sign_11 hacc Hz.out hbl)
            have Hacc := Lib.hid hacc; clear hacc
            have Hfin := Lib.hid hfin; clear hfin
            generalize prT ls j = acc at *
            go_wp2_with (go_at_call 22; refine (lenB _ _ acc _ HB.out).mono ?_; rintro e w' ⟨rfl, rfl⟩)
            refine (term_any w.heap.size b acc z m wr HB.out (by have := zsize Hz.out hs; omega) hzr hm100).mono ?_
            rintro e w4 ⟨rfl, hB4, hb4⟩
            go_wp2
            go_roundw
            case rel => exact ⟨j + 1, by omega, int_eq (by have := Hei.out; omega), by rw [Hfin.out, List.append_nil]; exact hB4, Hbw.out.trans hb4⟩
            case measure => simp [intOf] <;> omega
          ·
            have hpos : 0 < (prT ls j).length := List.length_pos_iff.2 hacc
            have h0 : (((prT ls j).length : Int) == 0) = false := by rw [beq_eq_false_iff_ne]; omega
            have hfin : prT ls (j + 1) = prT ls j ++ [32, 43, 32] ++ termOf z.data.toList m := by rw [Hst.out]; exact step_of hs0 Hz.out (sign_01 hacc Hz.out hbl)
            have Hacc := Lib.hid hacc; clear hacc
            have Hfin := Lib.hid hfin; clear hfin
            generalize prT ls j = acc at *
            go_wp2_with (go_at_call 22; refine (lenB _ _ acc _ HB.out).mono ?_; rintro e w' ⟨rfl, rfl⟩)
            refine (writeS w.heap.size b acc _ wr HB.out (by show acc.length + 3 ≤ _; omega) hzr).mono ?_
            rintro e w3 ⟨rfl, hB3, hb3⟩
            have hz3 := hb3.size
            go_wp2_with fail
            refine (term_any w.heap.size b _ z m w3 hB3 (by have := zsize Hz.out hs; simp; omega) (by omega) hm100).mono ?_
            rintro e w4 ⟨rfl, hB4, hb4⟩
            go_wp2
            go_roundw
            case rel => exact ⟨j + 1, by omega, int_eq (by have := Hei.out; omega), by rw [Hfin.out]; exact hB4, (Hbw.out.trans hb3).trans hb4⟩
            case measure => simp [intOf] <;> omega
      · have hfin : prT ls (j + 1) = prT ls j := by rw [Hst.out]; rw [ByteArray.toList_eq] at hs0; unfold printStep; rw [if_pos (beq_iff_eq.1 hs0)]
        have Hfin := Lib.hid hfin; clear hfin
        go_wp2
        go_roundw
        case rel => exact ⟨j + 1, by omega, int_eq (by have := Hei.out; omega), by rw [Hfin.out]; exact HB.out, Hbw.out⟩
        case measure => simp [intOf] <;> omega
    · have hjn : j = n := by omega
      subst hjn
      have hres := HF.out.res
      have ei : ((j : Int) - 1 - j) = -1 := by omega
      rw [ei]
      clear ei
      have hcode := hlong
      by_cases hacc : prT ls j = []
      · rw [if_pos hacc, if_neg (by simp)] at hres
        have h0 : (((prT ls j).length : Int) == 0) = true := by rw [hacc]; rfl
        have Hacc := Lib.hid hacc; clear hacc
        have Hres := Lib.hid hres; clear hres
        generalize prT ls j = acc at *
        go_wp2_with (go_at_call 22; refine (lenB _ _ acc _ HB.out).mono ?_; rintro e w' ⟨rfl, rfl⟩)
        refine (writeB w.heap.size b acc _ 48 rfl wr HB.out (by omega) hzr).mono ?_
        rintro e w3 ⟨rfl, hB3, hb3⟩
        have hz3 := hb3.size
        have hB3' : Lib.IsBuilder 52 5 w.heap.size b (Lib.byteCells [48]) w3 := by rw [Hacc.out] at hB3; exact hB3
        go_wp2_with fail
        refine (lenB _ _ [48] _ hB3').mono ?_
        rintro e w' ⟨rfl, rfl⟩
        go_wp2_with fail
        refine (Tryz.Builder_String_any w.heap.size b [48] w3 hB3' (by omega)).mono ?_
        rintro e w5 ⟨rfl, hb5⟩
        go_wp2
        go_ret2
        exact ⟨by rw [Hres.out]; rfl, (Hbw.out.trans hb3).trans hb5⟩
      · rw [if_neg hacc] at hres
        have hpos : 0 < (prT ls j).length := List.length_pos_iff.2 hacc
        have h0 : (((prT ls j).length : Int) == 0) = false := by rw [beq_eq_false_iff_ne]; omega
        clear hacc
        by_cases hbig : (prT ls j).length > 65536
        · rw [if_pos hbig] at hres
          have Hres := Lib.hid hres; clear hres
          generalize prT ls j = acc at *
          go_wp2_with (go_at_call 22; refine (lenB _ _ acc _ HB.out).mono ?_; rintro e w' ⟨rfl, rfl⟩)
          go_ret2
          exact ⟨by rw [Hres.out]; rfl, Hbw.out⟩
        · rw [if_neg hbig] at hres
          have Hres := Lib.hid hres; clear hres
          generalize prT ls j = acc at *
          go_wp2_with (go_at_call 22; refine (lenB _ _ acc _ HB.out).mono ?_; rintro e w' ⟨rfl, rfl⟩)
          refine (Tryz.Builder_String_any w.heap.size b acc wr HB.out hzr).mono ?_
          rintro e w5 ⟨rfl, hb5⟩
          go_wp2
          go_ret2
          exact ⟨by rw [Hres.out]; rfl, Hbw.out.trans hb5⟩
theorem print_any (w : World) (g cap : Nat) (ss : List ByteArray) (a : Addr) (hg : g < w.heap.size) (hst : Strs w g ss) (hsz : ∀ s ∈ ss, s.size ≤ maxLen) (hn : ss.length * 16 ≤ 140737488355328) (hcap : ss.length ≤ cap)
    (hE : w.cell? ⟨0, 0, none⟩ = some (.iface 243 (.pointer (some a)))) :
    Calls Tryz.prog 7 #[.slice (some ⟨g, 0, none⟩) ss.length cap] w (PrintOut w (printRes (lists ss))) := by
  by_cases hc : polyCode (lists ss) = 0
  · exact print_ok w g cap ss a hg hst hsz hcap hE hc
  · exact print_no w g cap ss a hg hst hsz hn hcap hE hc
end Go.Proofs.YtbblbolpcdkggaaGreatFmt
