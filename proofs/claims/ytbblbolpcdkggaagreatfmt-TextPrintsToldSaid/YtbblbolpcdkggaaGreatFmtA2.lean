/-
  Words for memory: a block that is known whole; a world that is another one but for new blocks and writes into certain blocks.
-/
import Derived.Test.YtbblbolpcdkggaaGreatFmtA1
import Derived.Below
import Derived.Laws.OwnMore
import Derived.Deep.Draws
import Derived.Laws.Rows
import Derived.RegionTactic
import Derived.ChangeAlike
namespace Go.Proofs.YtbblbolpcdkggaaGreatFmt
open Go.RowKit

def Blk (w : World) (g : Nat) (t : TypeId) (cs : Array Value) : Prop := w.heap[g]? = some (.cells cs t (0, 0))
/-- w' is w but for new blocks and writes into blocks of S. -/
structure Tch (S : Nat → Prop) (w w' : World) : Prop where
  os : w'.os = w.os
  tape : w'.tape = w.tape
  output : w'.output = w.output
  size : w.heap.size ≤ w'.heap.size
  block : ∀ k, k < w.heap.size → ¬ S k → w'.heap[k]? = w.heap[k]?
def Nil (_ : Nat) : Prop := False
section
variable {w w' a b c : World} {g : Nat} {t : TypeId} {cs : Array Value} {S S' : Nat → Prop}
theorem Blk.lt (h : Blk w g t cs) : g < w.heap.size := by
  rcases Nat.lt_or_ge g w.heap.size with hlt | hge
  · exact hlt
  · unfold Blk at h; rw [Array.getElem?_eq_none hge] at h; cases h
theorem Blk.cell (h : Blk w g t cs) (i : Nat) : w.cell? ⟨g, i, none⟩ = cs[i]? := cell_of_row w g i cs t (0, 0) h
theorem Blk.frozen (h : Blk w g t cs) (i : Nat) : w.frozen? ⟨g, i, none⟩ = false := by
  unfold Blk at h
  simp [World.frozen?, h]
theorem Blk.new (w : World) (t : TypeId) (cs : Array Value) : Blk (w.alloc (.cells cs t)) w.heap.size t cs := heap_alloc_new w _
theorem Blk.drew (h : Blk w g t cs) : Blk w.drew g t cs := h
theorem Blk.drewN (h : Blk w g t cs) (n : Nat) : Blk (w.drewN n) g t cs := h
theorem Blk.alloc (h : Blk w g t cs) (o : Obj) : Blk (w.alloc o) g t cs := (Below.heap_alloc w o g h.lt).trans h
theorem Blk.set_ (h : Blk w g t cs) (i : Nat) (u : Value) : Blk (w.setCell ⟨g, i, none⟩ u) g t (cs.setIfInBounds i u) := by
  unfold Blk at h ⊢
  simp [World.setCell, Array.getElem?_modify, h]
theorem Blk.far (h : Blk w g t cs) {p : Addr} (hp : g ≠ p.block) (u : Value) : Blk (w.setCell p u) g t cs := (Below.heap_setCell w p u g hp).trans h
theorem Blk.below {B : Nat} (h : Blk w g t cs) (hb : Below B w w') (hg : g < B) : Blk w' g t cs := (hb.block g hg).trans h
theorem Blk.tch (h : Blk w g t cs) (hb : Tch S w w') (hg : ¬ S g) : Blk w' g t cs := (hb.block g h.lt hg).trans h
theorem Blk.ne_ {g' : Nat} {t' : TypeId} {cs' : Array Value} (h : Blk w g t cs) (h' : Blk w g' t' cs') (hne : t ≠ t') : g ≠ g' := by
  rintro rfl
  unfold Blk at h h'
  rw [h] at h'
  injection h' with h'
  injection h' with _ ht
  exact hne ht
theorem Blk.same {t' : TypeId} {cs' : Array Value} (h : Blk w g t cs) (h' : Blk w g t' cs') : cs = cs' := by
  unfold Blk at h h'
  rw [h] at h'
  injection h' with h'
  injection h'
theorem Tch.refl (S : Nat → Prop) (w : World) : Tch S w w := ⟨rfl, rfl, rfl, Nat.le_refl _, fun _ _ _ => rfl⟩
theorem Tch.mono (h : Tch S a b) (hs : ∀ k, S k → S' k) : Tch S' a b := ⟨h.os, h.tape, h.output, h.size, fun k hk hn => h.block k hk (fun e => hn (hs k e))⟩
theorem Tch.nil (h : Tch Nil a b) (S : Nat → Prop) : Tch S a b := h.mono fun _ e => e.elim
theorem Tch.trans (h : Tch S a b) (h2 : Tch S' b c) (hs : ∀ k, k < a.heap.size → S' k → S k) : Tch S a c :=
  ⟨h2.os.trans h.os, h2.tape.trans h.tape, h2.output.trans h.output, Nat.le_trans h.size h2.size, fun k hk hn =>
    (h2.block k (Nat.lt_of_lt_of_le hk h.size) (fun e => hn (hs k hk e))).trans (h.block k hk hn)⟩
theorem Tch.then (h : Tch S a b) (h2 : Tch S b c) : Tch S a c := h.trans h2 fun _ _ e => e
theorem Tch.drew (h : Tch S a w) : Tch S a w.drew := ⟨h.os, h.tape, h.output, h.size, h.block⟩
theorem Tch.drewN (h : Tch S a w) (n : Nat) : Tch S a (w.drewN n) := by
  induction n with
  | zero => exact h
  | succ n ih => exact ih.drew
theorem Tch.alloc (h : Tch S a w) (o : Obj) : Tch S a (w.alloc o) :=
  ⟨h.os, h.tape, h.output, by rw [World.size_alloc]; have := h.size; omega, fun k hk hn => (Below.heap_alloc w o k (Nat.lt_of_lt_of_le hk h.size)).trans (h.block k hk hn)⟩
theorem Tch.setCell (h : Tch S a w) {p : Addr} (hp : p.block < a.heap.size → S p.block) (u : Value) : Tch S a (w.setCell p u) :=
  ⟨h.os, h.tape, h.output, by rw [World.size_setCell]; exact h.size, fun k hk hn =>
    (Below.heap_setCell w p u k (fun e => by subst e; exact hn (hp hk))).trans (h.block k hk hn)⟩
theorem Tch.grown {row : Option Nat} (hg : w.grownBy w' row) : Tch (fun k => some k = row) w w' := ⟨hg.os, hg.tape, hg.output, hg.size, fun k hk hn => hg.block k hk hn⟩
theorem Tch.grown_none (hg : w.grownBy w' none) : Tch Nil w w' := ⟨hg.os, hg.tape, hg.output, hg.size, fun k hk _ => hg.block k hk (by simp)⟩
theorem Tch.below {B : Nat} (h : Tch S w w') (hs : ∀ k, k < B → ¬ S k) (hB : B ≤ w.heap.size) : Below B w w' :=
  ⟨h.os, h.tape, h.output, h.size, fun k hk => h.block k (Nat.lt_of_lt_of_le hk hB) (hs k hk)⟩
theorem Tch.of_below {B : Nat} (h : Below B w w') : Tch (fun k => B ≤ k) w w' := ⟨h.os, h.tape, h.output, h.size, fun k _ hn => h.block k (by omega)⟩
theorem Tch.of_whole (h : Below w.heap.size w w') : Tch Nil w w' := ⟨h.os, h.tape, h.output, h.size, fun k hk _ => h.block k hk⟩
theorem Tch.whole (h : Tch Nil w w') : Below w.heap.size w w' := h.below (fun _ _ e => e) (Nat.le_refl _)
theorem Tch.cell (h : Tch S w w') {p : Addr} {v : Value} (hc : w.cell? p = some v) (hs : ¬ S p.block) : w'.cell? p = some v :=
  (World.cell?_of_block (w := w) (h.block p.block (World.block_lt_of_cell? w p hc) hs)).trans hc
end
end Go.Proofs.YtbblbolpcdkggaaGreatFmt
/-
  Walks: strings.Reader: ReadByte, UnreadByte; strings.NewReader.
-/
namespace Go.Proofs.YtbblbolpcdkggaaGreatFmt
open Go.RowKit

set_option maxHeartbeats 400000 in
theorem readByte_yes (w : World) (R : Nat) (s : ByteArray) (i : Nat) (p : Value) (hb : Blk w R 133 #[.string s, .int .i64 i, p]) (hi : i < s.size) (hs : s.size ≤ maxLen) :
    Calls Tryz.prog 318 #[.pointer (some ⟨R, 0, none⟩)] w fun e w' => e = .returned (.tuple #[.int .u8 (s[i].toNat : Int), .nilIface]) ∧
      Blk w' R 133 #[.string s, .int .i64 ((i + 1 : Nat) : Int), .int .i64 (-1)] ∧ Tch (· = R) w w' ∧ w'.heap.size = w.heap.size := by
  unfold maxLen at hs
  have h0 := hb.cell 0
  have h1 := hb.cell 1
  have h2 := hb.cell 2
  have hf1 := hb.frozen 1
  have hf2 := hb.frozen 2
  simp at h0 h1 h2
  go_enter Tryz.func318, Tryz.ntmps318
  go_wp2
  go_quiet (fail)
  go_wp2
  go_quiet (fail)
  go_wp2
  go_ret2
  exact ⟨rfl, ((hb.set_ 2 _).drewN _).set_ 1 _, (by repeat (first | exact Tch.refl _ _ | with_reducible assumption | refine Tch.drewN ?_ _ | refine Tch.drew ?_ | refine Tch.setCell ?_ (fun _ => by show _ = _; rfl) _ | refine Tch.alloc ?_ _)), by simp⟩

set_option maxHeartbeats 400000 in
theorem readByte_eof (w : World) (R : Nat) (s : ByteArray) (p E : Value) (hb : Blk w R 133 #[.string s, .int .i64 (s.size : Nat), p]) 
    (hE : w.cell? ⟨0, 0, none⟩ = some E) :
    Calls Tryz.prog 318 #[.pointer (some ⟨R, 0, none⟩)] w fun e w' => e = .returned (.tuple #[.int .u8 0, E]) ∧
      Blk w' R 133 #[.string s, .int .i64 (s.size : Nat), .int .i64 (-1)] ∧ Tch (· = R) w w' ∧ w'.heap.size = w.heap.size := by
  have h0 := hb.cell 0
  have h1 := hb.cell 1
  have h2 := hb.cell 2
  have hf1 := hb.frozen 1
  have hf2 := hb.frozen 2
  simp at h0 h1 h2
  go_enter Tryz.func318, Tryz.ntmps318
  go_wp2
  go_quiet (fail)
  go_wp2
  go_quiet (fail)
  go_wp2
  go_ret2
  have hB := hb.set_ 2 (.int .i64 (-1))
  exact ⟨rfl, hB, (by repeat (first | exact Tch.refl _ _ | with_reducible assumption | refine Tch.drewN ?_ _ | refine Tch.drew ?_ | refine Tch.setCell ?_ (fun _ => by show _ = _; rfl) _ | refine Tch.alloc ?_ _)), by simp⟩

set_option maxHeartbeats 400000 in
theorem unreadByte_yes (w : World) (R : Nat) (s : ByteArray) (i : Nat) (p : Value) (hb : Blk w R 133 #[.string s, .int .i64 i, p]) (hi : 0 < i) (his : i ≤ s.size) (hs : s.size ≤ maxLen) :
    Calls Tryz.prog 319 #[.pointer (some ⟨R, 0, none⟩)] w fun e w' => e = .returned .nilIface ∧
      Blk w' R 133 #[.string s, .int .i64 ((i - 1 : Nat) : Int), .int .i64 (-1)] ∧ Tch (· = R) w w' ∧ w'.heap.size = w.heap.size := by
  unfold maxLen at hs
  have h0 := hb.cell 0
  have h1 := hb.cell 1
  have h2 := hb.cell 2
  have hf1 := hb.frozen 1
  have hf2 := hb.frozen 2
  simp at h0 h1 h2
  have hi' : ((i - 1 : Nat) : Int) = (i : Int) - 1 := by omega
  rw [hi']
  clear hi'
  have hi0 : ¬ ((i : Int) ≤ 0) := by omega
  go_enter Tryz.func319, Tryz.ntmps319
  go_wp2
  go_ret
  exact ⟨rfl, (hb.set_ 2 _).set_ 1 _, (by repeat (first | exact Tch.refl _ _ | with_reducible assumption | refine Tch.drewN ?_ _ | refine Tch.drew ?_ | refine Tch.setCell ?_ (fun _ => by show _ = _; rfl) _ | refine Tch.alloc ?_ _)), by simp⟩

set_option maxHeartbeats 400000 in
theorem newReader_any (w : World) (s : ByteArray) :
    Calls Tryz.prog 76 #[.string s] w fun e w' => e = .returned (.pointer (some ⟨w.heap.size, 0, none⟩)) ∧ w' = w.alloc (.cells #[.string s, .int .i64 0, .int .i64 (-1)] 133) := by
  go_enter Tryz.func76, Tryz.ntmps76
  go_wp2
  go_ret
  exact ⟨rfl, rfl⟩
end Go.Proofs.YtbblbolpcdkggaaGreatFmt
/-
  Walks: math/big.scanSign.
-/
namespace Go.Proofs.YtbblbolpcdkggaaGreatFmt
open Go.RowKit
set_option maxHeartbeats 400000 in
theorem scanSign_dash (w : World) (R : Nat) (s : ByteArray) (hb : Blk w R 133 #[.string s, .int .i64 0, .int .i64 (-1)]) (hp : 0 < s.size) (hs : s.size ≤ maxLen) (h45 : ((s[0].toNat : Int) == 45) = true) :
    Calls Tryz.prog 111 #[.iface 108 (.pointer (some ⟨R, 0, none⟩))] w fun e w' => e = .returned (.tuple #[.bool true, .nilIface]) ∧
      Blk w' R 133 #[.string s, .int .i64 ((1 : Nat) : Int), .int .i64 (-1)] ∧ Tch (· = R) w w' ∧ w'.heap.size = w.heap.size := by
  have hb' : Blk w R 133 #[.string s, .int .i64 ((0 : Nat) : Int), .int .i64 (-1)] := hb
  go_enter Tryz.func111, Tryz.ntmps111
  go_wp2_with (go_at_call 318; refine (readByte_yes _ _ _ 0 _ hb' hp hs).mono ?_; rintro e w1 ⟨rfl, hb1, ht1, hz1⟩)
  go_ret2
  exact ⟨rfl, hb1, ht1, hz1⟩
set_option maxHeartbeats 400000 in
theorem scanSign_digit (w : World) (R : Nat) (s : ByteArray) (hb : Blk w R 133 #[.string s, .int .i64 0, .int .i64 (-1)]) (hp : 0 < s.size) (hs : s.size ≤ maxLen)
    (h45 : ((s[0].toNat : Int) == 45) = false) (h43 : ((s[0].toNat : Int) == 43) = false) :
    Calls Tryz.prog 111 #[.iface 108 (.pointer (some ⟨R, 0, none⟩))] w fun e w' => e = .returned (.tuple #[.bool false, .nilIface]) ∧
      Blk w' R 133 #[.string s, .int .i64 ((0 : Nat) : Int), .int .i64 (-1)] ∧ Tch (· = R) w w' ∧ w'.heap.size = w.heap.size := by
  have hb' : Blk w R 133 #[.string s, .int .i64 ((0 : Nat) : Int), .int .i64 (-1)] := hb
  go_enter Tryz.func111, Tryz.ntmps111
  go_wp2_with (first | (go_at_call 318; refine (readByte_yes _ _ _ 0 _ hb' hp hs).mono ?_; rintro e w1 ⟨rfl, hb1, ht1, hz1⟩) | (go_at_call 319; refine (unreadByte_yes _ _ _ 1 _ (by assumption) (by omega) (by omega) hs).mono ?_; rintro e w2 ⟨rfl, hb2, ht2, hz2⟩))
  go_ret2
  exact ⟨rfl, hb2, ht1.then ht2, hz2.trans hz1⟩
end Go.Proofs.YtbblbolpcdkggaaGreatFmt
