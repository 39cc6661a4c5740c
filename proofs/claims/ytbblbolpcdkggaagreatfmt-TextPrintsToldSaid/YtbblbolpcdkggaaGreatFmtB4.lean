/-
  Walks: surdbig's String.
-/
import Derived.Test.YtbblbolpcdkggaaGreatFmtB3
import Derived.Test.YtbblbolpcdkggaaGreatFmtA8
namespace Go.Proofs.YtbblbolpcdkggaaGreatFmt
open Go.RowKit
theorem info5b : (Tryz.prog.info? 5).map (fun i => (i.zero, i.size, i.bytes)) = some (some (.int .u8 0), 1, 1) := by kernel_rfl
def Bytes (w : World) (base : Nat) (v : Value) (bs : List UInt8) : Prop := w.ownsRow base 5 1 v bs.length (Lib.byteCells bs)
/-- The outer loop: the words that are left, the digits so far (the last first). -/
def OutRel (w : World) (base V : Nat) (va vo : Value) (wr : World) : Prop :=
  ∃ (ws : List Nat) (bs : List UInt8), Row wr base va ws ∧ W32s ws ∧ (ws = [] ∨ 0 < wval ws) ∧ ws.length ≤ 100000 ∧ Bytes wr base vo bs ∧ digs (wval ws) ++ bs.reverse = digs V ∧ Below base w wr
/-- The inner loop. -/
def InRel (w : World) (base V : Nat) (ws : List Nat) (va vo rv iv : Value) (wr : World) : Prop :=
  ∃ (i r : Nat) (bs : List UInt8), i ≤ 9 ∧ iv = .int .i64 i ∧ rv = .int .u32 r ∧ r < 10 ^ (9 - i) ∧ Row wr base va ws ∧ Bytes wr base vo bs ∧ digs (wval ws * 10 ^ (9 - i) + r) ++ bs.reverse = digs V ∧ Below base w wr
theorem in_step {w w4 : World} {base V i r : Nat} {ws : List Nat} {bs : List UInt8} {va vo' : Value} (hi : i < 9) (_hr : r < 10 ^ (9 - i)) (hpos : 0 < wval ws ∨ 0 < r) (hd : digs (wval ws * 10 ^ (9 - i) + r) ++ bs.reverse = digs V)
    (hrow : Row w4 base va ws) (hb : w4.ownsRow base 5 1 vo' (bs.length + 1) (Lib.byteCells bs ++ [.int .u8 ((48 + r % 10 : Nat) : Int)])) (hbl : Below base w w4) {rv iv : Value}
    (h1 : rv = .int .u32 ((r / 10 : Nat) : Int)) (h2 : iv = .int .i64 ((i + 1 : Nat) : Int)) : InRel w base V ws va vo' rv iv w4 := by
  obtain ⟨e1, e2⟩ := ten_low (wval ws) i r hi
  refine ⟨i + 1, r / 10, bs ++ [UInt8.ofNat (48 + r % 10)], by omega, h2, h1, ?_, hrow, ?_, ?_, hbl⟩
  · obtain ⟨j, hj⟩ : ∃ j, 9 - i = j + 1 := ⟨8 - i, by omega⟩
    have hj2 : 9 - (i + 1) = j := by omega
    rw [hj2]; rw [hj, Nat.pow_succ] at _hr
    omega
  · have e : (UInt8.ofNat (48 + r % 10)).toNat = 48 + r % 10 := by
      rw [UInt8.toNat_ofNat']; omega
    unfold Bytes
    rw [List.length_append, bytes_app, List.length_singleton]
    have e3 : Lib.byteCells [UInt8.ofNat (48 + r % 10)] = [.int .u8 ((48 + r % 10 : Nat) : Int)] := by
      unfold Lib.byteCells; rw [List.map_singleton, e]
    rw [e3]; exact hb
  · have hp : 0 < wval ws * 10 ^ (9 - i) + r := by
      rcases hpos with h | h
      · have := Nat.mul_pos h (Nat.pow_pos (n := 9 - i) (by decide : 0 < 10)); omega
      · omega
    rw [digs_step hp, e1, e2] at hd
    rw [List.reverse_append, ← hd]; simp
theorem in_end {w wr : World} {base V i r : Nat} {ws : List Nat} {bs : List UInt8} {va vo : Value} (hi : i ≤ 9) (hr : r < 10 ^ (9 - i)) (hz : i = 9 ∨ (ws = [] ∧ r = 0)) (hw : W32s ws) (hp : ws = [] ∨ 0 < wval ws) (hl : ws.length ≤ 100000)
    (hrow : Row wr base va ws) (hb : Bytes wr base vo bs) (hd : digs (wval ws * 10 ^ (9 - i) + r) ++ bs.reverse = digs V) (hbl : Below base w wr) : OutRel w base V va vo wr := by
  refine ⟨ws, bs, hrow, hw, hp, hl, hb, ?_, hbl⟩
  rcases hz with rfl | ⟨rfl, rfl⟩
  · have : r = 0 := by simpa using hr
    subst this; simpa using hd
  · simpa [wval] using hd
def RevRel (w : World) (base : Nat) (L cap g : Nat) (bs : List UInt8) (iv kv : Value) (wr : World) : Prop :=
  ∃ (i : Nat) (xs : List UInt8), iv = .int .i64 i ∧ kv = .int .i64 ((L : Int) - 1 - i) ∧ i ≤ L ∧ xs.length = L ∧ (∀ j, j < L → xs[j]? = if j < i ∨ L ≤ j + i then bs[L - 1 - j]? else bs[j]?) ∧
    wr.ownsRow base 5 1 (.slice (some ⟨g, 0, none⟩) L cap) L (Lib.byteCells xs) ∧ Below base w wr
theorem rev_end {L i : Nat} {bs xs : List UInt8} (hL : bs.length = L) (hx : xs.length = L) (h : ∀ j, j < L → xs[j]? = if j < i ∨ L ≤ j + i then bs[L - 1 - j]? else bs[j]?) (hi : L ≤ 2 * i + 1) : xs = bs.reverse := by
  apply List.ext_getElem?
  intro j
  rcases Nat.lt_or_ge j L with hj | hj
  · rw [h j hj, List.getElem?_reverse (by omega), hL]
    by_cases hc : j < i ∨ L ≤ j + i
    · rw [if_pos hc]
    · rw [if_neg hc]; congr 1; omega
  · rw [List.getElem?_eq_none (by omega), List.getElem?_eq_none (by rw [List.length_reverse]; omega)]
theorem rev_step {L i : Nat} {bs xs : List UInt8} (_hL : bs.length = L) (hx : xs.length = L) (h : ∀ j, j < L → xs[j]? = if j < i ∨ L ≤ j + i then bs[L - 1 - j]? else bs[j]?) (hi : 2 * i + 1 < L) {a b : UInt8} (ha : xs[i]? = some a) (hb : xs[L - 1 - i]? = some b) :
    ∀ j, j < L → ((xs.set i b).set (L - 1 - i) a)[j]? = if j < i + 1 ∨ L ≤ j + (i + 1) then bs[L - 1 - j]? else bs[j]? := by
  intro j hj
  have ha' := h i (by omega)
  rw [if_neg (by omega), ha] at ha'
  have hb' := h (L - 1 - i) (by omega)
  rw [if_neg (by omega), hb] at hb'
  rw [List.getElem?_set, List.getElem?_set, List.length_set]
  by_cases h1 : L - 1 - i = j
  · rw [if_pos h1, if_pos (by omega), if_pos (by omega)]
    rw [show L - 1 - j = i from by omega]; exact ha'
  · rw [if_neg h1]
    by_cases h2 : i = j
    · subst h2; rw [if_pos rfl, if_pos (by omega), if_pos (by omega)]; exact hb'
    · rw [if_neg h2, h j hj]
      by_cases hc : j < i ∨ L ≤ j + i
      · rw [if_pos hc, if_pos (by omega)]
      · rw [if_neg hc, if_neg (by omega)]
theorem Bytes.tch {w w' : World} {base : Nat} {v : Value} {bs : List UInt8} (h : Bytes w base v bs) (ht : Tch Nil w w') : Bytes w' base v bs := by
  refine ⟨h.1, ?_⟩
  rcases h.2 with hn | ⟨g, cap, cur, rfl, hb, hgg, rest⟩
  · exact .inl hn
  · exact .inr ⟨g, cap, cur, rfl, hb, (ht.block g (Array.getElem?_eq_some_iff.1 hgg).1 (fun h => h)).trans hgg, rest⟩
theorem Bytes.formA {w : World} {base : Nat} {v : Value} {bs : List UInt8} (h : Bytes w base v bs) : ∃ A cap, v = .slice A bs.length cap ∧ bs.length ≤ cap ∧ cap ≤ maxLen ∧ (0 < bs.length → ∃ g, A = some ⟨g, 0, none⟩ ∧ base ≤ g) := by
  rcases h.2 with ⟨h1, h0⟩ | ⟨g, cap, cur, rfl, hb, hgg, h1, h2, _⟩
  · rw [h0]; exact ⟨none, 0, h1, Nat.le_refl _, Nat.zero_le _, fun h => by cases h⟩
  · exact ⟨_, cap, rfl, h1, h2, fun _ => ⟨g, rfl, hb⟩⟩
theorem byteCells_get (l : List UInt8) (j : Nat) (h : j < l.length) : (Lib.byteCells l)[j]? = some (.int .u8 (l[j].toNat : Int)) := by
  unfold Lib.byteCells; rw [List.getElem?_map, List.getElem?_eq_getElem h]; rfl
theorem byteCells_set (l : List UInt8) (j : Nat) (c : UInt8) : (Lib.byteCells l).set j (.int .u8 (c.toNat : Int)) = Lib.byteCells (l.set j c) := by
  unfold Lib.byteCells; rw [List.map_set]
theorem one_new (w : World) (t : TypeId) (x : Value) : ∀ (j : Nat) (u : Value), ([x] : List Value)[j]? = some u → (w.alloc (.cells #[x] t)).cell? ((⟨w.heap.size, 0, none⟩ : Addr).add j) = some u := by
  intro j u hu
  rw [addr_add, Nat.zero_add, (Blk.new _ _ _).cell]
  have e : (#[x] : Array Value)[j]? = [x][j]? := by rw [← Array.getElem?_toList]
  exact e.trans hu
theorem Row.alloc8 {w w' : World} {base : Nat} {v v8 : Value} {ws : List Nat} {bs : List UInt8} {o : Obj} (h : Row w base v ws) (hg : (w.alloc o).grownBy w' v8.ownBlock) (h8 : Bytes w base v8 bs) : Row w' base v ws := by
  have h1 : (w.alloc o).ownsRow base 79 1 v ws.length (ws.map w32) := World.ownsRow.alloc h o
  refine World.ownsRow.kept h1 hg ?_
  rcases h.2 with ⟨rfl, _⟩ | ⟨g, cap, cur, rfl, hb, hgg, _⟩
  · exact .inl rfl
  · right
    intro e
    rcases h8.2 with ⟨rfl, _⟩ | ⟨g', cap', cur', rfl, hb', hgg', _⟩
    · cases e
    · have e2 : (some g : Option Nat) = some g' := e
      injection e2 with e2
      subst e2
      rw [hgg] at hgg'
      injection hgg' with hgg'
      injection hgg' with _ ht
      exact absurd ht (by decide)
def StrOut (w : World) (V : Nat) (e : Ending) (w' : World) : Prop := e = .returned (.string ⟨(Lib.decDigits V).toArray⟩) ∧ Tch Nil w w'
set_option maxRecDepth 100000 in
set_option maxHeartbeats 4000000 in
theorem string_any (w : World) (g bx : Nat) (ws : List Nat) (hx : IntAt w g bx false ws) (hpos : 0 < wval ws) (hdl : (Lib.decDigits (wval ws)).length ≤ 1000000) :
    Calls Tryz.prog 18 #[.pointer (some ⟨g, 0, none⟩)] w (StrOut w (wval ws)) := by
  obtain ⟨i0, hi, hz0, hz1, hz2⟩ := info_parts info79
  obtain ⟨i5, hi5, hz50, hz51, hz52⟩ := info_parts info5b
  obtain ⟨v, hb, hr, hw, hp, hlen⟩ := hx
  have hne : 0 < ws.length := by
    rcases Nat.eq_zero_or_pos ws.length with h | h
    · rw [List.length_eq_zero_iff.1 h] at hpos; exact absurd hpos (by decide)
    · exact h
  obtain ⟨gx, cap, rfl, hgx, hc, hm⟩ := hr.form hne
  have c1 : w.cell? ⟨g, 1, none⟩ = some (.slice (some ⟨gx, 0, none⟩) ws.length cap) := hb.cell 1
  have hcells : ∀ j u, (ws.map w32)[j]? = some u → (w.alloc (.cells #[] 79)).cell? ((⟨gx, 0, none⟩ : Addr).add j) = some u := fun j u hu => World.ownsRow.cells (hr.alloc _) rfl j u hu
  have hone : ∀ u ∈ ws.map w32, u.oneCell' = true := by
    intro u hu
    obtain ⟨x, -, rfl⟩ := List.mem_map.1 hu
    rfl
  have hl0 : ((ws.length : Int) == 0) = false := by rw [beq_eq_false_iff_ne]; omega
  have Hc := Lib.hid hcells; clear hcells
  have Ho := Lib.hid hone; clear hone
  have Hw := Lib.hid hw; clear hw
  have Hb := Lib.hid hb
  have hgl := hb.lt
  have Hm := Lib.hid hm; clear hm
  have H63 := Lib.hid (show 0 + ws.length ≤ maxLen by unfold maxLen; omega)
  clear hr hb hp
  obtain ⟨V, hV⟩ : ∃ V, wval ws = V := ⟨_, rfl⟩
  have HV := Lib.hid hV
  rw [hV] at hpos hdl ⊢
  clear hV
  have Hdl := Lib.hid hdl; clear hdl
  go_enter Tryz.func18, Tryz.ntmps18
  go_wp2_with (at_builtin; refine wpList_append_own _ rfl _ _ 41 rfl w.heap.size 79 i0 (.int .u32 0) 1 4 Tryz.underlying41 hi hz0 hz1 hz2 rfl (by decide) _ 0 [] rfl (World.ownsRow_lit w #[] 0 (Nat.le_refl _) (Nat.zero_le _) rfl) ⟨gx, 0, none⟩ ws.length cap (ws.map w32) rfl (by simp) Hc.out Ho.out H63.out (by omega) (by simp) ?_)
  intro v' w4 hown4 hgrow4 _
  have hrow : Row w4 w.heap.size v' ws := hown4
  have hbl4 : Below w.heap.size w w4 := (((Tch.refl Nil w).alloc _).trans (Tch.grown hgrow4) (fun k hk h => by have h2 : some k = some w.heap.size := h; injection h2 with h2; exfalso; omega) : Tch Nil w w4).whole
  have Hrow := Lib.hid hrow; clear hrow
  have Hbl4 := Lib.hid hbl4; clear hbl4
  clear hown4 hgrow4
  go_wp2
  go_loopw [3, 4] (fun va vo wr => OutRel w w.heap.size V va vo wr) (fun va _ wr => rowVal va wr)
  case atStart => exact ⟨ws, [], Hrow.out, Hw.out, .inr (by rw [HV.out]; exact hpos), hlen, World.ownsRow_nil _ _ _ _, by rw [HV.out]; simp, Hbl4.out⟩
  case round =>
    obtain ⟨qs, bs, hq, hqw, hqp, hql, hbs, hdg, hbl⟩ := hrel
    obtain ⟨A, capa, rfl, -, -, -⟩ := hq.formA
    have hbsl : bs.length ≤ 1000000 := by
      have h1 := congrArg List.length hdg
      rw [List.length_append, List.length_reverse, digs_pos hpos] at h1
      have := Hdl.out; omega
    by_cases h0 : qs = []
    · subst h0
      rw [show ([] : List Nat).length = 0 from rfl]
      have hrev : bs.reverse = Lib.decDigits V := by
        rw [← digs_pos hpos, ← hdg]; rfl
      have hbl0 : 0 < bs.length := by
        rcases Nat.eq_zero_or_pos bs.length with h | h
        · rw [List.length_eq_zero_iff.1 h] at hrev
          have : digs V = [] := by rw [digs_pos hpos, ← hrev]; rfl
          rw [digs_step hpos] at this
          exact absurd this (by simp)
        · exact h
      obtain ⟨Ab, capb, rfl, hcb, -, hAb⟩ := hbs.formA
      obtain ⟨gb, rfl, hgb⟩ := hAb hbl0
      have c0 : wr.cell? ⟨g, 0, none⟩ = some (.bool false) := (Hb.out.below hbl hgl).cell 0
      have Hbs := Lib.hid hbs; clear hbs
      have Hrev := Lib.hid hrev; clear hrev hdg
      have Hbl := Lib.hid hbl; clear hbl
      have Hlen := Lib.hid hlen; clear hlen
      have Hbsl := Lib.hid hbsl; clear hbsl
      obtain ⟨L, hL⟩ : ∃ L, bs.length = L := ⟨_, rfl⟩
      have HL := Lib.hid hL
      rw [hL] at hbl0 hcb ⊢
      have hLb : L < 4294967296 := by have := Hbsl.out; omega
      clear hL hq
      go_wp2
      go_loopw [8, 9] (fun iv kv wx => RevRel w w.heap.size L capb gb bs iv kv wx) (fun iv _ _ => L - (intOf iv).toNat)
      case atStart => exact ⟨0, bs, rfl, by simp, Nat.zero_le _, HL.out, fun j hj => by rw [if_neg (by omega)], by have := Hbs.out; unfold Bytes at this; rw [HL.out] at this; exact this, Hbl.out⟩
      case round =>
        obtain ⟨i, xs, rfl, rfl, hiL, hxl, hxs, hxo, hblx⟩ := hrel
        by_cases hlt : 2 * i + 1 < L
        · obtain ⟨k2, hk2⟩ : ∃ k2, L - 1 - i = k2 := ⟨_, rfl⟩
          have hk : ((L : Int) - 1 - i) = (k2 : Int) := by omega
          obtain ⟨a, ha⟩ : ∃ a, xs[i]? = some a := ⟨_, List.getElem?_eq_getElem (by omega)⟩
          obtain ⟨b, hb⟩ : ∃ b, xs[k2]? = some b := ⟨_, List.getElem?_eq_getElem (by omega)⟩
          have cA : wr.cell? ⟨gb, i, none⟩ = some (.int .u8 a.toNat) := by
            rw [World.ownsRow.cellAt hxo i (by omega)]; unfold Lib.byteCells; rw [List.getElem?_map, ha]; rfl
          have cB : wr.cell? ⟨gb, k2, none⟩ = some (.int .u8 b.toNat) := by
            rw [World.ownsRow.cellAt hxo k2 (by omega)]; unfold Lib.byteCells; rw [List.getElem?_map, hb]; rfl
          have fA := World.ownsRow.frozenAt hxo i
          have fB := World.ownsRow.frozenAt hxo k2
          have hne : i ≠ k2 := by omega
          have hkL : k2 < L := by omega
          have hik : (i : Int) < (k2 : Int) := by omega
          have hstep := rev_step (L := L) (i := i) HL.out hxl hxs hlt ha (by rw [hk2]; exact hb)
          rw [hk2] at hstep
          have ho2 : ((wr.setCell ⟨gb, i, none⟩ (.int .u8 b.toNat)).setCell ⟨gb, k2, none⟩ (.int .u8 a.toNat)).ownsRow w.heap.size 5 1 (.slice (some ⟨gb, 0, none⟩) L capb) L (Lib.byteCells ((xs.set i b).set k2 a)) := by
            have h1 := (World.ownsRow.stored hxo i (.int .u8 b.toNat)).1
            rw [byteCells_set] at h1
            have h2 := (World.ownsRow.stored h1 k2 (.int .u8 a.toNat)).1
            rw [byteCells_set] at h2
            exact h2
          have Ho2 := Lib.hid ho2
          have Hstep := Lib.hid hstep
          have Hxl := Lib.hid hxl
          have Hblx := Lib.hid hblx
          have Hk := Lib.hid hk
          have Hlt := Lib.hid hlt
          rw [hk]
          clear ho2 hstep hxl hxs hxo hblx ha hb hk hk2 hlt
          go_wp2
          go_roundw
          case rel => exact ⟨i + 1, _, by simp, by have := Hk.out; rw [← this]; simp; omega, by omega, by rw [List.length_set, List.length_set]; exact Hxl.out, Hstep.out, Ho2.out, (Hblx.out.setCell hgb _).setCell hgb _⟩
          case measure => simp [intOf]; omega
        · have he := rev_end HL.out hxl hxs (by omega)
          subst he
          rw [Hrev.out] at hxo hxl
          have hcv := run_convert_bytes_back (P := Tryz.prog) wr 50 9 5 ⟨gb, 0, none⟩ capb (Lib.decDigits V) Tryz.underlying50 Tryz.underlying5 Tryz.underlying9 (fun j hj => by
            rw [addr_add, Nat.zero_add, World.ownsRow.cellAt hxo j (by omega), byteCells_get _ _ hj])
          rw [hxl] at hcv
          have Hblx := Lib.hid hblx
          clear hxo hxl hxs hblx
          have hik : ¬ ((i : Int) < (L : Int) - 1 - i) := by omega
          go_wp2
          go_ret
          exact ⟨rfl, Tch.of_whole Hblx.out⟩
    · have hqn : ((qs.length : Int) > 0) := by have := List.length_pos_iff.2 h0; omega
      have hsm := small_any wr w.heap.size _ qs 1000000000 hq hqw (by decide) (by decide) hql (by have := hbl.size; omega)
      have Hsm := Lib.hid hsm; clear hsm
      have Hq := Lib.hid hq; clear hq
      have Hbs := Lib.hid hbs; clear hbs
      have Hdg := Lib.hid hdg; clear hdg
      have Hbl := Lib.hid hbl; clear hbl
      have Hqp := Lib.hid (show 0 < wval qs by rcases hqp with h | h; exact absurd h h0; exact h)
      clear hqp h0 hqw
      go_wp2_with (go_at_call 35; refine Hsm.out.mono ?_)
      rintro e w5 ⟨v5, rs, rfl, hr5, hw5, hv5, hp5, hl5, ht5⟩
      obtain ⟨R, hR⟩ : ∃ R, wval qs % 1000000000 = R := ⟨_, rfl⟩
      have HR := Lib.hid hR
      rw [hR]; clear hR
      obtain ⟨A5, cap5, rfl, -, -, -⟩ := hr5.formA
      have H5 := Lib.hid (⟨hr5, hw5, hv5, hp5, hl5, ht5⟩ : _ ∧ _ ∧ _ ∧ _ ∧ _ ∧ _)
      clear hr5 hw5 hv5 hp5 hl5 ht5
      have Hlen := Lib.hid hlen; clear hlen
      have Hbsl := Lib.hid hbsl; clear hbsl
      rcases Nat.eq_zero_or_pos rs.length with hz | hz
      · obtain rfl : rs = [] := List.length_eq_zero_iff.1 hz
        rw [show ([] : List Nat).length = 0 from rfl]
        clear hz
        go_wp2
        go_loopw [4, 6, 7] (fun vo rv iv wx => InRel w w.heap.size V [] (.slice A5 0 cap5) vo rv iv wx) (fun _ _ iv _ => 9 - (intOf iv).toNat)
        case atStart =>
          obtain ⟨hr5, hw5, hv5, hp5, hl5, ht5⟩ := H5.out
          refine ⟨0, R, bs, Nat.zero_le _, rfl, rfl, ?_, hr5, Hbs.out.tch ht5 , ?_, Hbl.out.trans (ht5.whole.mono Hbl.out.size)⟩
          · have := HR.out; have h2 : wval qs % 1000000000 < 1000000000 := Nat.mod_lt _ (by decide)
            simp; omega
          · have := Hdg.out
            have e : wval [] * 10 ^ (9 - 0) + R = wval qs := by
              rw [hv5, ← HR.out]; have := Nat.div_add_mod (wval qs) 1000000000; simp; omega
            rw [e]; exact this
        case round =>
          obtain ⟨i, r, cs, hi9, rfl, rfl, hr9, hrx, hcs, hdx, hblx⟩ := hrel
          have hr10 : r < 4294967296 := by
            have : 10 ^ (9 - i) ≤ 10 ^ 9 := Nat.pow_le_pow_right (by decide) (by omega)
            have h2 : (10 : Nat) ^ 9 = 1000000000 := by decide
            omega
          have hcsl : cs.length ≤ 1000000 := by
            have h1 := congrArg List.length hdx
            rw [List.length_append, List.length_reverse, digs_pos hpos] at h1
            have := Hdl.out; omega
          have Hcsl := Lib.hid hcsl; clear hcsl
          obtain ⟨Ac, capc, rfl, -, -, -⟩ := hcs.formA
          have HX := Lib.hid (⟨hr9, hrx, hcs, hdx, hblx⟩ : _ ∧ _ ∧ _ ∧ _ ∧ _)
          have hsx := hblx.size
          clear hr9 hrx hcs hdx hblx
          by_cases h9 : i = 9
          · subst h9
            go_wp2
            go_roundw
            case rel => exact in_end (Nat.le_refl 9) HX.out.1 (.inl rfl) H5.out.2.1 (.inl rfl) (Nat.zero_le _) HX.out.2.1 HX.out.2.2.1 HX.out.2.2.2.1 HX.out.2.2.2.2
            case measure => rw [HX.out.2.1.val, Hq.out.val, H5.out.2.2.1]; have := Hqp.out; omega
          · have hi9' : (i : Int) < 9 := by omega
            by_cases hr0 : r = 0
            · subst hr0
              go_wp2
              go_roundw
              case rel => exact in_end hi9 HX.out.1 (.inr ⟨rfl, rfl⟩) H5.out.2.1 (.inl rfl) (Nat.zero_le _) HX.out.2.1 HX.out.2.2.1 HX.out.2.2.2.1 HX.out.2.2.2.2
              case measure => rw [HX.out.2.1.val, Hq.out.val, H5.out.2.2.1]; have := Hqp.out; omega
            · have hr0' : 0 < r := by omega
              clear hr0
              go_wp2_with (at_builtin; refine wpList_append_own _ rfl _ _ 50 rfl w.heap.size 5 i5 (.int .u8 0) 1 1 Tryz.underlying50 hi5 hz50 hz51 hz52 rfl (by decide) _ cs.length (Lib.byteCells cs) rfl (World.ownsRow.alloc HX.out.2.2.1 _) ⟨wr.heap.size, 0, none⟩ 1 1 [.int .u8 (48 + (r : Int) % 10)] rfl rfl (one_new _ _ _) (fun u hu => by simp at hu; subst hu; rfl) (by have := Hcsl.out; unfold maxLen; omega) (by have := Hcsl.out; omega) (by simp; omega) ?_)
              intro v7 w7 hown7 hgrow7 _
              have hin := fun rv iv h1 h2 => in_step (w := w) (w4 := w7) (base := w.heap.size) (V := V) (i := i) (r := r) (ws := []) (bs := cs) (va := .slice A5 0 cap5) (vo' := v7) (rv := rv) (iv := iv) (by omega) HX.out.1 (.inr hr0') HX.out.2.2.2.1 (HX.out.2.1.alloc8 hgrow7 HX.out.2.2.1) (by rw [show ((48 + r % 10 : Nat) : Int) = 48 + (r : Int) % 10 from by omega]; exact hown7) ((HX.out.2.2.2.2.alloc hsx _).grown hgrow7 (by simp; omega) (fun j hj => (World.ownsRow.lt HX.out.2.2.1 j hj).1)) h1 h2
              have Hin := Lib.hid hin; clear hin hown7 hgrow7
              go_wp2
              go_roundw
              case rel => refine Hin.out _ _ ?_ ?_ <;> simp
              case measure => simp [intOf]; omega
      · have hrs0 : ((rs.length : Int) > 0) := by omega
        have hrs : ¬ rs.length = 0 := by omega
        have HP0 := Lib.hid (show 0 < wval rs by rcases H5.out.2.2.2.1 with h | h; rw [h] at hz; exact absurd hz (by decide); exact h)
        clear hz
        go_wp2
        go_loopw [4, 6, 7] (fun vo rv iv wx => InRel w w.heap.size V rs (.slice A5 rs.length cap5) vo rv iv wx) (fun _ _ iv _ => 9 - (intOf iv).toNat)
        case atStart =>
          obtain ⟨hr5, hw5, hv5, hp5, hl5, ht5⟩ := H5.out
          refine ⟨0, R, bs, Nat.zero_le _, rfl, rfl, ?_, hr5, Hbs.out.tch ht5 , ?_, Hbl.out.trans (ht5.whole.mono Hbl.out.size)⟩
          · have := HR.out; have h2 : wval qs % 1000000000 < 1000000000 := Nat.mod_lt _ (by decide)
            simp; omega
          · have := Hdg.out
            have e : wval rs * 10 ^ (9 - 0) + R = wval qs := by
              rw [hv5, ← HR.out]; have := Nat.div_add_mod (wval qs) 1000000000; simp; omega
            rw [e]; exact this
        case round =>
          obtain ⟨i, r, cs, hi9, rfl, rfl, hr9, hrx, hcs, hdx, hblx⟩ := hrel
          have hr10 : r < 4294967296 := by
            have : 10 ^ (9 - i) ≤ 10 ^ 9 := Nat.pow_le_pow_right (by decide) (by omega)
            have h2 : (10 : Nat) ^ 9 = 1000000000 := by decide
            omega
          have hcsl : cs.length ≤ 1000000 := by
            have h1 := congrArg List.length hdx
            rw [List.length_append, List.length_reverse, digs_pos hpos] at h1
            have := Hdl.out; omega
          have Hcsl := Lib.hid hcsl; clear hcsl
          obtain ⟨Ac, capc, rfl, -, -, -⟩ := hcs.formA
          have HX := Lib.hid (⟨hr9, hrx, hcs, hdx, hblx⟩ : _ ∧ _ ∧ _ ∧ _ ∧ _)
          have hsx := hblx.size
          clear hr9 hrx hcs hdx hblx
          by_cases h9 : i = 9
          · subst h9
            go_wp2
            go_roundw
            case rel => exact in_end (Nat.le_refl 9) HX.out.1 (.inl rfl) H5.out.2.1 H5.out.2.2.2.1 (by have := H5.out.2.2.2.2.1; omega) HX.out.2.1 HX.out.2.2.1 HX.out.2.2.2.1 HX.out.2.2.2.2
            case measure => rw [HX.out.2.1.val, Hq.out.val, H5.out.2.2.1]; have := Hqp.out; omega
          · have hi9' : (i : Int) < 9 := by omega
            go_wp2_with (at_builtin; refine wpList_append_own _ rfl _ _ 50 rfl w.heap.size 5 i5 (.int .u8 0) 1 1 Tryz.underlying50 hi5 hz50 hz51 hz52 rfl (by decide) _ cs.length (Lib.byteCells cs) rfl (World.ownsRow.alloc HX.out.2.2.1 _) ⟨wr.heap.size, 0, none⟩ 1 1 [.int .u8 (48 + (r : Int) % 10)] rfl rfl (one_new _ _ _) (fun u hu => by simp at hu; subst hu; rfl) (by have := Hcsl.out; unfold maxLen; omega) (by have := Hcsl.out; omega) (by simp; omega) ?_)
            intro v7 w7 hown7 hgrow7 _
            have hin := fun rv iv h1 h2 => in_step (w := w) (w4 := w7) (base := w.heap.size) (V := V) (i := i) (r := r) (ws := rs) (bs := cs) (va := .slice A5 rs.length cap5) (vo' := v7) (rv := rv) (iv := iv) (by omega) HX.out.1 (.inl HP0.out) HX.out.2.2.2.1 (HX.out.2.1.alloc8 hgrow7 HX.out.2.2.1) (by rw [show ((48 + r % 10 : Nat) : Int) = 48 + (r : Int) % 10 from by omega]; exact hown7) ((HX.out.2.2.2.2.alloc hsx _).grown hgrow7 (by simp; omega) (fun j hj => (World.ownsRow.lt HX.out.2.2.1 j hj).1)) h1 h2
            have Hin := Lib.hid hin; clear hin hown7 hgrow7
            go_wp2
            go_roundw
            case rel => refine Hin.out _ _ ?_ ?_ <;> simp
            case measure => simp [intOf]; omega
end Go.Proofs.YtbblbolpcdkggaaGreatFmt
