/-
  The plain words of the proof of TextPrints: what the texts of whole numbers are, and small facts on strings, lists and numbers. No program in sight.
-/
import Derived.WalkKit
import Derived.WalkSpells
import Derived.WalkLawsBesides
import Derived.Handy
import Derived.PlainAid
import Derived.Lib.Hide
import Derived.Test.YtbblbolpcdkggaaGreatFmtProg
import Derived.Deep.QuietTactic
import Derived.BigQuiet
namespace Go.Proofs.YtbblbolpcdkggaaGreatFmt
open Go.RowKit
namespace Tp
def isDig (c : UInt8) : Bool := 48 ≤ c && c ≤ 57
def lead (l : List UInt8) : Bool := l.head?.any (fun c => c != 48)
def bare (l : List UInt8) : List UInt8 := if l.head? = some 45 then l.tail else l
def formed (l : List UInt8) : Bool := l == [48] || ((bare l).all isDig && lead (bare l))
theorem isDig_iff (c : UInt8) : isDig c = (decide (48 ≤ (c.toNat : Int)) && decide ((c.toNat : Int) ≤ 57)) := by
  unfold isDig
  rw [Bool.eq_iff_iff]; simp [UInt8.le_iff_toNat_le]; omega
theorem take_snoc (s : ByteArray) (k : Nat) (h : k < s.size) : s.data.toList.take (k + 1) = s.data.toList.take k ++ [s[k]] := by
  rw [List.take_succ_eq_append_getElem (by simpa using h)]; rfl
theorem ret_bool {a b : Bool} (h : a = b) : Ending.returned (.bool a) = .returned (.bool b) := by rw [h]
theorem ret_int {k : IntKind} {a b : Int} (h : a = b) : Ending.returned (.int k a) = .returned (.int k b) := by rw [h]
theorem len_data (s : ByteArray) : s.data.toList.length = s.size := Array.length_toList
theorem head_data (s : ByteArray) (h : 0 < s.size) : s.data.toList.head? = some s[0] := by
  rw [List.head?_eq_getElem?, List.getElem?_eq_getElem (by rw [len_data]; exact h)]; rfl
theorem mem_data (s : ByteArray) (k : Nat) (h : k < s.size) : s[k] ∈ s.data.toList := by
  have : s[k] = s.data.toList[k]'(by rw [len_data]; exact h) := rfl
  rw [this]; exact List.getElem_mem _
theorem all_false (s : ByteArray) (k : Nat) (h : k < s.size) (hd : isDig s[k] = false) : s.data.toList.all isDig = false := by
  rw [List.all_eq_false]; exact ⟨_, mem_data s k h, by simp [hd]⟩
theorem lead_data (s : ByteArray) (h : 0 < s.size) : lead s.data.toList = ((s[0].toNat : Int) != 48) := by
  unfold lead; rw [head_data s h]
  simp only [Option.any_some]
  rw [Bool.eq_iff_iff]; simp only [bne_iff_ne, ne_eq]
  constructor
  · intro h e; apply h; apply UInt8.toNat_inj.1; have e2 : s[0].toNat = 48 := by omega
    exact e2
  · intro h e; apply h; rw [e]; rfl
theorem bare_tail (s : ByteArray) (h : 0 < s.size) (h45 : ((s[0].toNat : Int) == 45) = true) : bare s.data.toList = (s.extract 1 s.size).data.toList := by
  have e : s[0] = 45 := by apply UInt8.toNat_inj.1; have := beq_iff_eq.1 h45; simpa using (by omega : s[0].toNat = 45)
  unfold bare; rw [head_data s h, e, if_pos rfl]
  rw [ByteArray.data_extract, Array.toList_extract]
  rw [← List.drop_one, List.extract_eq_take_drop]
  rw [List.take_of_length_le]
  rw [List.length_drop, len_data]; omega
theorem bare_self (s : ByteArray) (h : 0 < s.size) (h45 : ((s[0].toNat : Int) == 45) = false) : bare s.data.toList = s.data.toList := by
  unfold bare; rw [head_data s h, if_neg]
  intro e; injection e with e; rw [e] at h45; simp at h45
theorem bare_nil (s : ByteArray) (h : s.size = 0) : bare s.data.toList = [] := by
  have : s.data.toList = [] := by apply List.eq_nil_of_length_eq_zero; rw [len_data]; exact h
  rw [this]; rfl
theorem size_tail (s : ByteArray) : (s.extract 1 s.size).size = s.size - 1 := by simp [ByteArray.size_extract]
end Tp
end Go.Proofs.YtbblbolpcdkggaaGreatFmt
/-
  Walks: exact.formed, exact.digits and their like.
-/
namespace Go.Proofs.YtbblbolpcdkggaaGreatFmt
open Go.RowKit
set_option maxHeartbeats 400000 in
theorem formed_plain (s : ByteArray) (w : World) (hs : s.size ≤ maxLen) (h0 : (s.toList == [48]) = false) (hpos : 0 < s.size) (h45 : ((s[0].toNat : Int) == 45) = false) :
    Calls Tryz.prog 50 #[.string s] w fun e w' => e = .returned (.bool (Tp.formed s.data.toList)) ∧ w = w' := by
  unfold maxLen at hs
  have hfin : ∀ (k : Nat) (h : k < s.size), ((s[k].toNat : Int) < 48 ∨ 57 < (s[k].toNat : Int)) → Tp.formed s.data.toList = false := fun k h hd => by
    unfold Tp.formed; rw [← ByteArray.toList_eq, h0, ByteArray.toList_eq, Tp.bare_self s hpos h45, Tp.all_false s k h (by rw [Tp.isDig_iff]; simp; omega)]; rfl
  have hend : s.data.toList.all Tp.isDig = true → Tp.formed s.data.toList = ((s[0].toNat : Int) != 48) := fun h => by
    unfold Tp.formed; rw [← ByteArray.toList_eq, h0, ByteArray.toList_eq, Tp.bare_self s hpos h45, h, Tp.lead_data s hpos]; rfl
  have Hfin := Lib.hid hfin; clear hfin
  have Hend := Lib.hid hend; clear hend
  go_enter Tryz.func50, Tryz.ntmps50
  go_wp2
  go_loop [3, 18] (fun j i => ∃ k : Nat, k ≤ s.size ∧ i = .int .i64 k ∧ (s.data.toList.take k).all Tp.isDig = true) (fun _ i => s.size - (intOf i).toNat)
  case atStart => exact ⟨0, Nat.zero_le _, rfl, rfl⟩
  case round =>
    obtain ⟨k, hk, rfl, hall⟩ := hrel
    by_cases hlt : k < s.size
    · have hts := Tp.take_snoc s k hlt
      have Hts := Lib.hid hts; clear hts
      go_wp2
      · go_ret
        exact ⟨Tp.ret_bool (Hfin.out k hlt (by assumption)).symm, rfl⟩
      · go_round
        case rel => exact ⟨k + 1, by omega, by go_num, by rw [Hts.out, List.all_append, hall]; simp [Tp.isDig_iff]; omega⟩
        case measure => simp [intOf]; omega
      · go_ret
        exact ⟨Tp.ret_bool (Hfin.out k hlt (by left; assumption)).symm, rfl⟩
    · go_wp2
      go_ret
      exact ⟨Tp.ret_bool (Hend.out (by rw [List.take_of_length_le (by rw [Tp.len_data]; omega)] at hall; exact hall)).symm, rfl⟩
set_option maxHeartbeats 400000 in
theorem formed_dash (s : ByteArray) (w : World) (hs : s.size ≤ maxLen) (h0 : (s.toList == [48]) = false) (hpos : 0 < s.size) (h45 : ((s[0].toNat : Int) == 45) = true) :
    Calls Tryz.prog 50 #[.string s] w fun e w' => e = .returned (.bool (Tp.formed s.data.toList)) ∧ w = w' := by
  unfold maxLen at hs
  have ht := Tp.size_tail s
  have hfin : ∀ (k : Nat) (h : k < (s.extract 1 s.size).size), (((s.extract 1 s.size)[k].toNat : Int) < 48 ∨ 57 < ((s.extract 1 s.size)[k].toNat : Int)) → Tp.formed s.data.toList = false := fun k h hd => by
    unfold Tp.formed; rw [← ByteArray.toList_eq, h0, ByteArray.toList_eq, Tp.bare_tail s hpos h45, Tp.all_false _ k h (by rw [Tp.isDig_iff]; simp; omega)]; rfl
  have hend : (s.extract 1 s.size).data.toList.all Tp.isDig = true → ∀ h1 : 0 < (s.extract 1 s.size).size, Tp.formed s.data.toList = (((s.extract 1 s.size)[0].toNat : Int) != 48) := fun h h1 => by
    unfold Tp.formed; rw [← ByteArray.toList_eq, h0, ByteArray.toList_eq, Tp.bare_tail s hpos h45, h, Tp.lead_data _ h1]; rfl
  have hnil : s.size = 1 → Tp.formed s.data.toList = false := fun h => by
    unfold Tp.formed; rw [← ByteArray.toList_eq, h0, ByteArray.toList_eq, Tp.bare_tail s hpos h45]
    have : (s.extract 1 s.size).data.toList = [] := by apply List.eq_nil_of_length_eq_zero; rw [Tp.len_data, ht]; omega
    rw [this]; rfl
  have Hfin := Lib.hid hfin; clear hfin
  have Hend := Lib.hid hend; clear hend
  have Hnil := Lib.hid hnil; clear hnil
  go_enter Tryz.func50, Tryz.ntmps50
  go_wp2
  generalize s.extract 1 s.size = t at *
  go_loop [3, 18] (fun j i => ∃ k : Nat, k ≤ t.size ∧ i = .int .i64 k ∧ (t.data.toList.take k).all Tp.isDig = true) (fun _ i => t.size - (intOf i).toNat)
  case atStart => exact ⟨0, Nat.zero_le _, rfl, rfl⟩
  case round =>
    obtain ⟨k, hk, rfl, hall⟩ := hrel
    by_cases hlt : k < t.size
    · have hts := Tp.take_snoc t k hlt
      have Hts := Lib.hid hts; clear hts
      have hlt' : k < s.size - 1 := by omega
      have Ht := Lib.hid ht; clear ht
      go_wp2
      · go_ret
        exact ⟨Tp.ret_bool (Hfin.out k hlt (by assumption)).symm, rfl⟩
      · go_round
        case rel => exact ⟨k + 1, by omega, by go_num, by rw [Hts.out, List.all_append, hall]; simp [Tp.isDig_iff]; omega⟩
        case measure => simp [intOf]; omega
      · go_ret
        exact ⟨Tp.ret_bool (Hfin.out k hlt (by left; assumption)).symm, rfl⟩
    · have hlt' : ¬ k < s.size - 1 := by omega
      by_cases h1 : 1 < s.size
      · have hp1 : 0 < t.size := by omega
        have Ht := Lib.hid ht; clear ht
        go_wp2
        go_ret
        exact ⟨Tp.ret_bool (Hend.out (by rw [List.take_of_length_le (by rw [Tp.len_data]; omega)] at hall; exact hall) hp1).symm, rfl⟩
      · have hp1 : t.size = 0 := by omega
        have hp2 : ¬ 0 < t.size := by omega
        have Hp1 := Lib.hid hp1; clear hp1
        have Ht := Lib.hid ht; clear ht
        go_wp2
        go_ret
        exact ⟨Tp.ret_bool (Hnil.out (by omega)).symm, rfl⟩
set_option maxHeartbeats 400000 in
theorem formed_zero (s : ByteArray) (w : World) (h0 : (s.toList == [48]) = true) :
    Calls Tryz.prog 50 #[.string s] w fun e w' => e = .returned (.bool (Tp.formed s.data.toList)) ∧ w = w' := by
  have hfin : Tp.formed s.data.toList = true := by unfold Tp.formed; rw [← ByteArray.toList_eq, h0]; rfl
  rw [hfin]; clear hfin
  go_enter Tryz.func50, Tryz.ntmps50
  go_wp2
  go_ret
  exact ⟨rfl, rfl⟩
set_option maxHeartbeats 400000 in
theorem formed_nil (s : ByteArray) (w : World) (h0 : (s.toList == [48]) = false) (hp : ¬ 0 < s.size) :
    Calls Tryz.prog 50 #[.string s] w fun e w' => e = .returned (.bool (Tp.formed s.data.toList)) ∧ w = w' := by
  have hfin : Tp.formed s.data.toList = false := by unfold Tp.formed; rw [← ByteArray.toList_eq, h0, ByteArray.toList_eq, Tp.bare_nil s (by omega)]; rfl
  rw [hfin]; clear hfin
  go_enter Tryz.func50, Tryz.ntmps50
  go_wp2
  go_loop [3, 18] (fun j i => i = .int .i64 0) (fun _ i => 0)
  case atStart => rfl
  case round =>
    obtain rfl := hrel
    go_wp2
    go_ret
    exact ⟨rfl, rfl⟩
theorem formed_any (s : ByteArray) (w : World) (hs : s.size ≤ maxLen) :
    Calls Tryz.prog 50 #[.string s] w fun e w' => e = .returned (.bool (Tp.formed s.data.toList)) ∧ w = w' := by
  cases h0 : (s.toList == [48])
  · by_cases hp : 0 < s.size
    · cases h45 : ((s[0].toNat : Int) == 45)
      · exact formed_plain s w hs h0 hp h45
      · exact formed_dash s w hs h0 hp h45
    · exact formed_nil s w h0 hp
  · exact formed_zero s w h0

/-- exact.Worst and surdref0.First of two codes. -/
def worst (a b : Int) : Int := if a = 2 ∨ b = 2 then 2 else if b ≠ 0 then b else a
def Code3 (a : Int) : Prop := a = 0 ∨ a = 2 ∨ a = 3
set_option maxHeartbeats 400000 in
theorem worst_two (a b : Int) (ha : Code3 a) (hb : Code3 b) (w : World) (B : Nat) (h0 : w.cell? ⟨B, 0, none⟩ = some (.int .i64 a)) (h1 : w.cell? ⟨B, 1, none⟩ = some (.int .i64 b)) :
    Calls Tryz.prog 37 #[.slice (some ⟨B, 0, none⟩) 2 2] w fun e w' => e = .returned (.int .i64 (worst a b)) ∧ w = w' := by
  rcases ha with rfl | rfl | rfl <;> rcases hb with rfl | rfl | rfl
  all_goals
    go_enter Tryz.func37, Tryz.ntmps37
    go_wp2
    go_rounds 3
    go_ret
    exact ⟨by simp [worst], rfl⟩
set_option maxHeartbeats 400000 in
theorem first_two (a b : Int) (ha : Code3 a) (hb : Code3 b) (w : World) (B : Nat) (h0 : w.cell? ⟨B, 0, none⟩ = some (.int .i64 a)) (h1 : w.cell? ⟨B, 1, none⟩ = some (.int .i64 b)) :
    Calls Tryz.prog 30 #[.slice (some ⟨B, 0, none⟩) 2 2] w fun e w' => e = .returned (.int .i64 (worst a b)) ∧ w = w' := by
  rcases ha with rfl | rfl | rfl <;> rcases hb with rfl | rfl | rfl
  all_goals
    go_enter Tryz.func30, Tryz.ntmps30
    go_wp2
    go_rounds 3
    go_ret
    exact ⟨by simp [worst], rfl⟩
set_option maxHeartbeats 400000 in
theorem digits_ref (s : ByteArray) (w : World) (hs : s.size ≤ maxLen) :
    Calls Tryz.prog 46 #[.string s] w fun e w' => e = .returned (.int .i64 (Tp.bare s.data.toList).length) ∧ w = w' := by
  unfold maxLen at hs
  by_cases hp : 0 < s.size
  · cases h45 : ((s[0].toNat : Int) == 45)
    · have hf := Tp.bare_self s hp h45
      rw [hf, Tp.len_data]; clear hf
      go_enter Tryz.func46, Tryz.ntmps46
      go_wp2
      go_ret
      exact ⟨rfl, rfl⟩
    · have hf := Tp.bare_tail s hp h45
      rw [hf, Tp.len_data, Tp.size_tail]; clear hf
      go_enter Tryz.func46, Tryz.ntmps46
      go_wp2
      go_ret
      exact ⟨Tp.ret_int (by omega), rfl⟩
  · have hf := Tp.bare_nil s (by omega)
    rw [hf]; clear hf
    go_enter Tryz.func46, Tryz.ntmps46
    go_wp2
    go_ret
    exact ⟨Tp.ret_int (by rw [show s.size = 0 from by omega]), rfl⟩
set_option maxHeartbeats 400000 in
theorem digits_any (s : ByteArray) (w : World) (hs : s.size ≤ maxLen) :
    Calls Tryz.prog 51 #[.string s] w fun e w' => e = .returned (.int .i64 (Tp.bare s.data.toList).length) ∧ w = w' := by
  unfold maxLen at hs
  by_cases hp : 0 < s.size
  · cases h45 : ((s[0].toNat : Int) == 45)
    · have hf := Tp.bare_self s hp h45
      rw [hf, Tp.len_data]; clear hf
      go_enter Tryz.func51, Tryz.ntmps51
      go_wp2
      go_ret
      exact ⟨rfl, rfl⟩
    · have hf := Tp.bare_tail s hp h45
      rw [hf, Tp.len_data, Tp.size_tail]; clear hf
      go_enter Tryz.func51, Tryz.ntmps51
      go_wp2
      go_ret
      exact ⟨Tp.ret_int (by omega), rfl⟩
  · have hf := Tp.bare_nil s (by omega)
    rw [hf]; clear hf
    go_enter Tryz.func51, Tryz.ntmps51
    go_wp2
    go_ret
    exact ⟨Tp.ret_int (by rw [show s.size = 0 from by omega]), rfl⟩
end Go.Proofs.YtbblbolpcdkggaaGreatFmt
/-
  Walks: surdref0.form, surdref0.Whole.
-/
namespace Go.Proofs.YtbblbolpcdkggaaGreatFmt
open Go.RowKit

set_option maxHeartbeats 400000 in
theorem form_plain (s : ByteArray) (w : World) (hs : s.size ≤ maxLen) (h0 : (s.toList == [48]) = false) (hpos : 0 < s.size) (h45 : ((s[0].toNat : Int) == 45) = false) :
    Calls Tryz.prog 45 #[.string s] w fun e w' => e = .returned (.bool (Tp.formed s.data.toList)) ∧ w = w' := by
  unfold maxLen at hs
  have hfin : ∀ (k : Nat) (h : k < s.size), ((s[k].toNat : Int) < 48 ∨ 57 < (s[k].toNat : Int)) → Tp.formed s.data.toList = false := fun k h hd => by
    unfold Tp.formed; rw [← ByteArray.toList_eq, h0, ByteArray.toList_eq, Tp.bare_self s hpos h45, Tp.all_false s k h (by rw [Tp.isDig_iff]; simp; omega)]; rfl
  have hend : s.data.toList.all Tp.isDig = true → Tp.formed s.data.toList = ((s[0].toNat : Int) != 48) := fun h => by
    unfold Tp.formed; rw [← ByteArray.toList_eq, h0, ByteArray.toList_eq, Tp.bare_self s hpos h45, h, Tp.lead_data s hpos]; rfl
  have hno : ((s[0].toNat : Int) == 48) = true → Tp.formed s.data.toList = false := fun h => by
    unfold Tp.formed; rw [← ByteArray.toList_eq, h0, ByteArray.toList_eq, Tp.bare_self s hpos h45, Tp.lead_data s hpos]
    have : ((s[0].toNat : Int) != 48) = false := by rw [bne, h]; rfl
    rw [this]; simp
  have Hfin := Lib.hid hfin; clear hfin
  have Hend := Lib.hid hend; clear hend
  have hz : ((s.size : Int) == 0) = false := by rw [beq_eq_false_iff_ne]; omega
  cases h48 : ((s[0].toNat : Int) == 48)
  · have hend' : s.data.toList.all Tp.isDig = true → Tp.formed s.data.toList = true := fun h => by
      rw [Hend.out h, bne, h48]; rfl
    have Hend' := Lib.hid hend'; clear hend' Hend hno
    go_enter Tryz.func45, Tryz.ntmps45
    go_wp2
    go_loop [3] (fun i => ∃ k : Nat, k ≤ s.size ∧ i = .int .i64 k ∧ (s.data.toList.take k).all Tp.isDig = true) (fun i => s.size - (intOf i).toNat)
    case atStart => exact ⟨0, Nat.zero_le _, rfl, rfl⟩
    case round =>
      obtain ⟨k, hk, rfl, hall⟩ := hrel
      by_cases hlt : k < s.size
      · have hts := Tp.take_snoc s k hlt
        have Hts := Lib.hid hts; clear hts
        go_wp2
        · go_ret
          exact ⟨Tp.ret_bool (Hfin.out k hlt (by assumption)).symm, rfl⟩
        · go_round
          case rel => exact ⟨k + 1, by omega, by go_num, by rw [Hts.out, List.all_append, hall]; simp [Tp.isDig_iff]; omega⟩
          case measure => simp [intOf]; omega
        · go_ret
          exact ⟨Tp.ret_bool (Hfin.out k hlt (by left; assumption)).symm, rfl⟩
      · go_wp2
        go_ret
        exact ⟨Tp.ret_bool (Hend'.out (by rw [List.take_of_length_le (by rw [Tp.len_data]; omega)] at hall; exact hall)).symm, rfl⟩
  · rw [hno h48]
    clear Hfin Hend hno
    go_enter Tryz.func45, Tryz.ntmps45
    go_wp2
    go_ret
    exact ⟨rfl, rfl⟩
set_option maxHeartbeats 400000 in
theorem form_dash (s : ByteArray) (w : World) (hs : s.size ≤ maxLen) (h0 : (s.toList == [48]) = false) (hpos : 0 < s.size) (h45 : ((s[0].toNat : Int) == 45) = true) :
    Calls Tryz.prog 45 #[.string s] w fun e w' => e = .returned (.bool (Tp.formed s.data.toList)) ∧ w = w' := by
  unfold maxLen at hs
  have ht := Tp.size_tail s
  have hfin : ∀ (k : Nat) (h : k < (s.extract 1 s.size).size), (((s.extract 1 s.size)[k].toNat : Int) < 48 ∨ 57 < ((s.extract 1 s.size)[k].toNat : Int)) → Tp.formed s.data.toList = false := fun k h hd => by
    unfold Tp.formed; rw [← ByteArray.toList_eq, h0, ByteArray.toList_eq, Tp.bare_tail s hpos h45, Tp.all_false _ k h (by rw [Tp.isDig_iff]; simp; omega)]; rfl
  have hend : (s.extract 1 s.size).data.toList.all Tp.isDig = true → ∀ h1 : 0 < (s.extract 1 s.size).size, Tp.formed s.data.toList = (((s.extract 1 s.size)[0].toNat : Int) != 48) := fun h h1 => by
    unfold Tp.formed; rw [← ByteArray.toList_eq, h0, ByteArray.toList_eq, Tp.bare_tail s hpos h45, h, Tp.lead_data _ h1]; rfl
  have hnil : s.size = 1 → Tp.formed s.data.toList = false := fun h => by
    unfold Tp.formed; rw [← ByteArray.toList_eq, h0, ByteArray.toList_eq, Tp.bare_tail s hpos h45]
    have : (s.extract 1 s.size).data.toList = [] := by apply List.eq_nil_of_length_eq_zero; rw [Tp.len_data, ht]; omega
    rw [this]; rfl
  have hno : ∀ h1 : 0 < (s.extract 1 s.size).size, (((s.extract 1 s.size)[0].toNat : Int) == 48) = true → Tp.formed s.data.toList = false := fun h1 h => by
    unfold Tp.formed; rw [← ByteArray.toList_eq, h0, ByteArray.toList_eq, Tp.bare_tail s hpos h45, Tp.lead_data _ h1]
    have : (((s.extract 1 s.size)[0].toNat : Int) != 48) = false := by rw [bne, h]; rfl
    rw [this]; simp
  have Hfin := Lib.hid hfin; clear hfin
  have Hend := Lib.hid hend; clear hend
  have Hnil := Lib.hid hnil; clear hnil
  have Hno := Lib.hid hno; clear hno
  by_cases h1 : 1 < s.size
  · have hp1 : 0 < (s.extract 1 s.size).size := by omega
    have hp2 : ((s.size - 1 : Nat) : Int) ≠ 0 := by omega
    have hp3 : (((s.size - 1 : Nat) : Int) == 0) = false := by rw [beq_eq_false_iff_ne]; exact hp2
    have hp4 : ((s.size : Int) - 1 == 0) = false := by rw [beq_eq_false_iff_ne]; omega
    cases h48 : (((s.extract 1 s.size)[0].toNat : Int) == 48)
    · have hend' : (s.extract 1 s.size).data.toList.all Tp.isDig = true → Tp.formed s.data.toList = true := fun h => by
        rw [Hend.out h hp1, bne, h48]; rfl
      have Hend' := Lib.hid hend'; clear hend' Hend Hno
      go_enter Tryz.func45, Tryz.ntmps45
      go_wp2
      generalize s.extract 1 s.size = t at *
      go_loop [3] (fun i => ∃ k : Nat, k ≤ t.size ∧ i = .int .i64 k ∧ (t.data.toList.take k).all Tp.isDig = true) (fun i => t.size - (intOf i).toNat)
      case atStart => exact ⟨0, Nat.zero_le _, rfl, rfl⟩
      case round =>
        obtain ⟨k, hk, rfl, hall⟩ := hrel
        by_cases hlt : k < t.size
        · have hts := Tp.take_snoc t k hlt
          have Hts := Lib.hid hts; clear hts
          go_wp2
          · go_ret
            exact ⟨Tp.ret_bool (Hfin.out k hlt (by assumption)).symm, rfl⟩
          · go_round
            case rel => exact ⟨k + 1, by omega, by go_num, by rw [Hts.out, List.all_append, hall]; simp [Tp.isDig_iff]; omega⟩
            case measure => simp [intOf]; omega
          · go_ret
            exact ⟨Tp.ret_bool (Hfin.out k hlt (by left; assumption)).symm, rfl⟩
        · go_wp2
          go_ret
          exact ⟨Tp.ret_bool (Hend'.out (by rw [List.take_of_length_le (by rw [Tp.len_data]; omega)] at hall; exact hall)).symm, rfl⟩
    · rw [Hno.out hp1 h48]
      clear Hfin Hend Hno
      go_enter Tryz.func45, Tryz.ntmps45
      go_wp2
      go_ret
      exact ⟨rfl, rfl⟩
  · have h1' : s.size = 1 := by omega
    rw [Hnil.out h1']
    clear Hfin Hend Hnil Hno
    have hp3 : (((s.size - 1 : Nat) : Int) == 0) = true := by rw [beq_iff_eq]; omega
    have hp4 : ((s.size : Int) - 1 == 0) = true := by rw [beq_iff_eq]; omega
    clear h1'
    go_enter Tryz.func45, Tryz.ntmps45
    go_wp2
    go_ret
    exact ⟨rfl, rfl⟩
set_option maxHeartbeats 400000 in
theorem form_zero (s : ByteArray) (w : World) (h0 : (s.toList == [48]) = true) :
    Calls Tryz.prog 45 #[.string s] w fun e w' => e = .returned (.bool (Tp.formed s.data.toList)) ∧ w = w' := by
  have hfin : Tp.formed s.data.toList = true := by unfold Tp.formed; rw [← ByteArray.toList_eq, h0]; rfl
  rw [hfin]; clear hfin
  go_enter Tryz.func45, Tryz.ntmps45
  go_wp2
  go_ret
  exact ⟨rfl, rfl⟩
set_option maxHeartbeats 400000 in
theorem form_nil (s : ByteArray) (w : World) (h0 : (s.toList == [48]) = false) (hp : ¬ 0 < s.size) :
    Calls Tryz.prog 45 #[.string s] w fun e w' => e = .returned (.bool (Tp.formed s.data.toList)) ∧ w = w' := by
  have hfin : Tp.formed s.data.toList = false := by unfold Tp.formed; rw [← ByteArray.toList_eq, h0, ByteArray.toList_eq, Tp.bare_nil s (by omega)]; rfl
  rw [hfin]; clear hfin
  have hz : ((s.size : Int) == 0) = true := by rw [beq_iff_eq]; omega
  go_enter Tryz.func45, Tryz.ntmps45
  go_wp2
  go_ret
  exact ⟨rfl, rfl⟩
theorem form_any (s : ByteArray) (w : World) (hs : s.size ≤ maxLen) :
    Calls Tryz.prog 45 #[.string s] w fun e w' => e = .returned (.bool (Tp.formed s.data.toList)) ∧ w = w' := by
  cases h0 : (s.toList == [48])
  · by_cases hp : 0 < s.size
    · cases h45 : ((s[0].toNat : Int) == 45)
      · exact form_plain s w hs h0 hp h45
      · exact form_dash s w hs h0 hp h45
    · exact form_nil s w h0 hp
  · exact form_zero s w h0
/-- R3 of a whole number's text: 0, 2 or 3. -/
def whole (l : List UInt8) : Int := if Tp.formed l = true then if (Tp.bare l).length > 20000 then 3 else 0 else 2
theorem whole_code (l : List UInt8) : Code3 (whole l) := by
  unfold whole Code3; split <;> (try split) <;> simp
set_option maxHeartbeats 400000 in
theorem whole_any (s : ByteArray) (w : World) (hs : s.size ≤ maxLen) :
    Calls Tryz.prog 31 #[.string s] w fun e w' => e = .returned (.int .i64 (whole s.data.toList)) ∧ w = w' := by
  unfold whole
  cases hf : Tp.formed s.data.toList
  · go_enter Tryz.func31, Tryz.ntmps31
    go_wp2_with (go_at_call 45; refine (form_any _ _ hs).mono ?_; rintro e w' ⟨rfl, rfl⟩)
    go_ret
    exact ⟨rfl, rfl⟩
  · by_cases hb : (Tp.bare s.data.toList).length > 20000
    · rw [if_pos rfl, if_pos hb]
      go_enter Tryz.func31, Tryz.ntmps31
      go_wp2_with (first | (go_at_call 45; refine (form_any _ _ hs).mono ?_; rintro e w' ⟨rfl, rfl⟩) | (go_at_call 46; refine (digits_ref _ _ hs).mono ?_; rintro e w' ⟨rfl, rfl⟩))
      go_ret
      exact ⟨rfl, rfl⟩
    · rw [if_pos rfl, if_neg hb]
      go_enter Tryz.func31, Tryz.ntmps31
      go_wp2_with (first | (go_at_call 45; refine (form_any _ _ hs).mono ?_; rintro e w' ⟨rfl, rfl⟩) | (go_at_call 46; refine (digits_ref _ _ hs).mono ?_; rintro e w' ⟨rfl, rfl⟩))
      go_ret
      exact ⟨rfl, rfl⟩
end Go.Proofs.YtbblbolpcdkggaaGreatFmt
