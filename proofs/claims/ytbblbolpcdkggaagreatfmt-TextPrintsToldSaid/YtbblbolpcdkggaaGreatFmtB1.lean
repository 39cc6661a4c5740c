/-
  surdbig's numbers: lists of 32-bit words. Plain words, and the walks: trimmed.
-/
import Derived.Test.YtbblbolpcdkggaaGreatFmtA7
import Derived.OwnWalk
namespace Go.Proofs.YtbblbolpcdkggaaGreatFmt
open Go.RowKit
abbrev W0 : Nat := 4294967296
def wval : List Nat → Nat
  | [] => 0
  | x :: xs => x + W0 * wval xs
def W32s (l : List Nat) : Prop := ∀ x ∈ l, x < W0
theorem wval_app (a b : List Nat) : wval (a ++ b) = wval a + W0 ^ a.length * wval b := by
  induction a with
  | nil => simp [wval]
  | cons x a ih => simp only [List.cons_append, wval, ih, List.length_cons, Nat.pow_succ, Nat.mul_add]; rw [Nat.add_assoc, Nat.mul_comm (W0 ^ a.length) W0, Nat.mul_assoc]
theorem wval_snoc (a : List Nat) (x : Nat) : wval (a ++ [x]) = wval a + W0 ^ a.length * x := by rw [wval_app]; simp [wval]
theorem wval_lt (a : List Nat) (h : W32s a) : wval a < W0 ^ a.length := by
  induction a with
  | nil => simp [wval]
  | cons x a ih =>
    have h1 := ih (fun y hy => h y (List.mem_cons_of_mem _ hy))
    have h2 := h x List.mem_cons_self
    simp only [wval, List.length_cons, Nat.pow_succ]
    have : W0 * (wval a + 1) ≤ W0 * W0 ^ a.length := Nat.mul_le_mul_left _ h1
    rw [Nat.mul_comm (W0 ^ a.length)]
    rw [Nat.mul_add] at this
    omega
theorem take_get (l : List Nat) (k : Nat) (h : k < l.length) : l.take (k + 1) = l.take k ++ [l[k]] := List.take_succ_eq_append_getElem h
def w32 (x : Nat) : Value := .int .u32 (x : Int)
def Row (w : World) (base : Nat) (v : Value) (ws : List Nat) : Prop := w.ownsRow base 79 1 v ws.length (ws.map w32)
section
variable {w w' : World} {base g cap : Nat} {v : Value} {ws : List Nat}
theorem Row.nil (w : World) (base : Nat) : Row w base (.slice none 0 0) [] := World.ownsRow_nil _ _ _ _
theorem Row.tch {S : Nat → Prop} (h : Row w base v ws) (ht : Tch S w w') (hs : ∀ k, Own v k → ¬ S k) : Row w' base v ws := by
  refine ⟨h.1, ?_⟩
  rcases h.2 with hn | ⟨g, cap, cur, rfl, hb, hgg, rest⟩
  · exact .inl hn
  · exact .inr ⟨g, cap, cur, rfl, hb, (ht.block g (Array.getElem?_eq_some_iff.1 hgg).1 (hs g rfl)).trans hgg, rest⟩
theorem Row.form (h : Row w base v ws) (hn : 0 < ws.length) : ∃ g cap, v = .slice (some ⟨g, 0, none⟩) ws.length cap ∧ base ≤ g ∧ ws.length ≤ cap ∧ cap ≤ maxLen := by
  rcases h.2 with ⟨_, h0⟩ | ⟨g, cap, cur, rfl, hb, hgg, h1, h2, _⟩
  · omega
  · exact ⟨g, cap, rfl, hb, h1, h2⟩
theorem Row.form0 (h : Row w base v ws) : v = .slice none 0 0 ∧ ws = [] ∨ ∃ g cap, v = .slice (some ⟨g, 0, none⟩) ws.length cap ∧ base ≤ g ∧ ws.length ≤ cap ∧ cap ≤ maxLen := by
  rcases h.2 with ⟨h1, h0⟩ | ⟨g, cap, cur, rfl, hb, hgg, h1, h2, _⟩
  · exact .inl ⟨h1, List.length_eq_zero_iff.1 h0⟩
  · exact .inr ⟨g, cap, rfl, hb, h1, h2⟩
theorem Row.cell (h : Row w base (.slice (some ⟨g, 0, none⟩) ws.length cap) ws) (j : Nat) (hj : j < ws.length) : w.cell? ⟨g, j, none⟩ = some (.int .u32 (ws[j] : Nat)) := by
  rw [World.ownsRow.cellAt h j (by omega), List.getElem?_map, List.getElem?_eq_getElem hj]; rfl
theorem Row.take (h : Row w base (.slice (some ⟨g, 0, none⟩) ws.length cap) ws) (m : Nat) (hm : m ≤ ws.length) : Row w base (.slice (some ⟨g, 0, none⟩) m cap) (ws.take m) := by
  have hl : (ws.take m).length = m := by rw [List.length_take]; omega
  rcases h.2 with ⟨h', _⟩ | ⟨g', cap', cur, h', hb, hgg, h1, h2, h3, h4⟩
  · simp at h'
  · simp only [Value.slice.injEq, Option.some.injEq, Addr.mk.injEq, and_true, true_and] at h'
    obtain ⟨rfl, rfl⟩ := h'
    refine ⟨by simp, .inr ⟨g, cap, cur, by rw [hl], hb, hgg, by omega, h2, h3, ?_⟩⟩
    rw [hl, List.map_take, ← h4, List.take_take, Nat.mul_one, Nat.mul_one, Nat.min_eq_left hm]
end
def Trims (ws rs : List Nat) : Prop := wval rs = wval ws ∧ (rs = [] ∨ 0 < wval rs) ∧ (W32s ws → W32s rs) ∧ rs.length ≤ ws.length
def TrimOut (w : World) (base : Nat) (v : Value) (ws : List Nat) (e : Ending) (w' : World) : Prop :=
  w = w' ∧ ∃ v' rs, e = .returned v' ∧ Row w base v' rs ∧ Trims ws rs ∧ ∀ k, Own v' k → Own v k
def TrimRel (g cap n : Nat) (ws : List Nat) (v : Value) : Prop := ∃ m, m ≤ n ∧ v = .slice (some ⟨g, 0, none⟩) m cap ∧ wval (ws.take m) = wval ws
theorem Trims.nil : Trims [] [] := ⟨rfl, .inl rfl, fun h => h, Nat.le_refl _⟩
theorem trims_take (ws : List Nat) (m : Nat) (h : wval (ws.take m) = wval ws) (h2 : m = 0 ∨ 0 < wval (ws.take m)) : Trims ws (ws.take m) := by
  refine ⟨h, ?_, fun hw x hx => hw x (List.mem_of_mem_take hx), by rw [List.length_take]; omega⟩
  rcases h2 with rfl | h2
  · exact .inl rfl
  · exact .inr h2
theorem take_pos (ws : List Nat) (j : Nat) (hj : j < ws.length) (h : ws[j] ≠ 0) : 0 < wval (ws.take (j + 1)) := by
  rw [take_get ws j hj, wval_snoc]
  have : 0 < W0 ^ (ws.take j).length * ws[j] := Nat.mul_pos (Nat.pow_pos (by decide)) (by omega)
  omega
theorem take_zero (ws : List Nat) (j : Nat) (hj : j < ws.length) (h : ws[j] = 0) (h2 : wval (ws.take (j + 1)) = wval ws) : wval (ws.take j) = wval ws := by
  rw [take_get ws j hj, wval_snoc, h] at h2; omega
set_option maxHeartbeats 1000000 in
theorem trimmed_any (w : World) (base : Nat) (v : Value) (ws : List Nat) (h : Row w base v ws) :
    Calls Tryz.prog 49 #[v] w (TrimOut w base v ws) := by
  rcases h.form0 with ⟨rfl, rfl⟩ | ⟨g, cap, rfl, hg, hc, hm⟩
  · go_enter Tryz.func49, Tryz.ntmps49
    go_wp2
    go_rounds 2
    go_ret
    exact ⟨rfl, _, [], rfl, h, Trims.nil, fun _ h => h⟩
  · unfold maxLen at hm
    have H := Lib.hid h; clear h
    generalize hn : ws.length = n at *
    have Hn := Lib.hid hn; clear hn
    go_enter Tryz.func49, Tryz.ntmps49
    go_wp2
    go_loop [0] (fun v => TrimRel g cap n ws v) (fun v => match v with | .slice _ m _ => m | _ => 0)
    case atStart => exact ⟨n, Nat.le_refl _, rfl, by rw [List.take_of_length_le (by have := Hn.out; omega)]⟩
    case round =>
      obtain ⟨m, hmn, rfl, hv⟩ := hrel
      have Hv := Lib.hid hv; clear hv
      by_cases h0 : m = 0
      · subst h0
        go_wp2
        go_ret
        exact ⟨rfl, _, _, rfl, Row.take (by rw [Hn.out]; exact H.out) 0 (Nat.zero_le _), trims_take ws 0 Hv.out (.inl rfl), fun _ h => h⟩
      · obtain ⟨j, rfl⟩ := Nat.exists_eq_succ_of_ne_zero h0
        have hj : j < ws.length := by have := Hn.out; omega
        have hcell := Row.cell (w := w) (base := base) (g := g) (cap := cap) (ws := ws) (by rw [Hn.out]; exact H.out) j hj
        generalize hx : ws[j] = x at hcell
        have Hx := Lib.hid hx; clear hx
        clear h0
        cases hz : ((x : Int) == 0)
        · go_wp2
          go_ret
          exact ⟨rfl, _, _, rfl, Row.take (by rw [Hn.out]; exact H.out) (j + 1) (by have := Hn.out; omega), trims_take ws (j + 1) Hv.out (.inr (take_pos ws j hj (by rw [Hx.out]; simpa using hz))), fun _ h => h⟩
        · go_wp2
          go_round
          case rel => exact ⟨j, by omega, by go_num, take_zero ws j hj (by rw [Hx.out]; simpa using hz) Hv.out⟩
          case measure => simp
end Go.Proofs.YtbblbolpcdkggaaGreatFmt
/-
  Walks: surdbig's grown.
-/
namespace Go.Proofs.YtbblbolpcdkggaaGreatFmt
open Go.RowKit
theorem info79 : (Tryz.prog.info? 79).map (fun i => (i.zero, i.size, i.bytes)) = some (some (.int .u32 0), 1, 4) := by kernel_rfl
def Grows (ws rs : List Nat) (m add : Nat) : Prop := wval rs = wval ws * m + add ∧ W32s rs ∧ rs.length ≤ ws.length + 1 ∧ (rs = [] ∨ 0 < wval rs)
def GrownOut (w : World) (base : Nat) (ws : List Nat) (m add : Nat) (e : Ending) (w' : World) : Prop :=
  ∃ v' rs, e = .returned v' ∧ Row w' base v' rs ∧ Grows ws rs m add ∧ Below base w w'
def GrownRel (w : World) (base : Nat) (A : Option Addr) (cap n : Nat) (ws : List Nat) (m add : Nat) (cv iv : Value) (wr : World) : Prop :=
  ∃ (k c : Nat) (ds : List Nat), k ≤ n ∧ cv = .int .u64 c ∧ iv = .int .i64 k ∧ c < W0 ∧ ds.length = k ∧ W32s ds ∧ wval ds + W0 ^ k * c = wval (ws.take k) * m + add ∧
    wr.ownsRow base 79 1 (.slice A n cap) n ((ds ++ ws.drop k).map w32) ∧ Below base w wr
theorem mul_bound {a b : Nat} (ha : a < W0) (hb : b < W0) : a * b ≤ 18446744065119617025 := by
  have := Nat.mul_le_mul (Nat.le_pred_of_lt ha) (Nat.le_pred_of_lt hb)
  exact this
theorem grow_step (dsv P x m c T add : Nat) (h : dsv + P * c = T * m + add) : dsv + P * ((x * m + c) % W0) + (P * W0) * ((x * m + c) / W0) = (T + P * x) * m + add := by
  have e := Nat.mod_add_div (x * m + c) W0
  generalize (x * m + c) % W0 = r at *
  generalize (x * m + c) / W0 = q at *
  have : P * r + P * W0 * q = P * (x * m + c) := by rw [← e, Nat.mul_add, Nat.mul_assoc]
  rw [Nat.add_assoc, this, Nat.mul_add, Nat.add_mul, Nat.mul_assoc]; omega
theorem W32s.app {a : List Nat} (h : W32s a) {x : Nat} (hx : x < W0) : W32s (a ++ [x]) := by
  intro y hy
  rcases List.mem_append.1 hy with h1 | h1
  · exact h y h1
  · rw [List.mem_singleton.1 h1]; exact hx
theorem grown_round {w wr : World} {base g cap n k c m add : Nat} {ws ds : List Nat} (hn : ws.length = n) (hk : k < n) (_hc : c < W0) (hw : W32s ws) (hd : ds.length = k) (hds : W32s ds) (hm : m < W0) (hg : base ≤ g)
    (hv : wval ds + W0 ^ k * c = wval (ws.take k) * m + add) (ho : wr.ownsRow base 79 1 (.slice (some ⟨g, 0, none⟩) n cap) n ((ds ++ ws.drop k).map w32)) (ht : Below base w wr) {x t : Nat} (hx : ws[k] = x) (hxt : x * m + c = t) {u : Value} (hu : u = .int .u32 ((t % W0 : Nat) : Int)) {cv iv : Value} (h1 : cv = .int .u64 ((t / W0 : Nat) : Int)) (h2 : iv = .int .i64 ((k + 1 : Nat) : Int)) :
    GrownRel w base (some ⟨g, 0, none⟩) cap n ws m add cv iv (wr.setCell ⟨g, k, none⟩ u) := by
  have hmw : x < W0 := by rw [← hx]; exact hw _ (List.getElem_mem _)
  have hb := mul_bound hmw hm
  refine ⟨k + 1, t / W0, ds ++ [t % W0], by omega, h1, h2, ?_, by rw [List.length_append, hd]; rfl, hds.app (Nat.mod_lt _ (by decide)), ?_, ?_, ht.setCell hg _⟩
  · apply Nat.div_lt_of_lt_mul; unfold W0 at *; omega
  · rw [take_get ws k (by omega), wval_snoc, wval_snoc, hd, List.length_take, Nat.min_eq_left (by omega), Nat.pow_succ, hx, ← hxt]
    exact grow_step _ _ _ _ _ _ _ hv
  · have h3 := (World.ownsRow.stored ho k u).1
    have e : ((ds ++ ws.drop k).map w32).set k u = ((ds ++ [t % W0]) ++ ws.drop (k + 1)).map w32 := by
      have hdr : ws.drop k = x :: ws.drop (k + 1) := by rw [List.drop_eq_getElem_cons (by omega : k < ws.length), hx]
      rw [hdr]
      subst hd hu
      rw [List.map_append, List.map_cons, List.set_append_right _ _ (by simp)]
      simp [w32]
    rw [e] at h3; exact h3
theorem Row.formA {w : World} {base : Nat} {v : Value} {ws : List Nat} (h : Row w base v ws) : ∃ A cap, v = .slice A ws.length cap ∧ ws.length ≤ cap ∧ cap ≤ maxLen ∧ (0 < ws.length → ∃ g, A = some ⟨g, 0, none⟩ ∧ base ≤ g) := by
  rcases h.form0 with ⟨rfl, rfl⟩ | ⟨g, cap, rfl, hb, h1, h2⟩
  · exact ⟨none, 0, rfl, Nat.le_refl _, Nat.zero_le _, fun h => by cases h⟩
  · exact ⟨_, cap, rfl, h1, h2, fun _ => ⟨g, rfl, hb⟩⟩
theorem grow_end {ws ds : List Nat} {n m add : Nat} (hn : ws.length = n) (hd : ds.length = n) (hds : W32s ds) (hm0 : 0 < m) (hpos : ws = [] ∨ 0 < wval ws) {c : Nat} (hv : wval ds + W0 ^ n * c = wval (ws.take n) * m + add) (hc : c < W0) :
    (c = 0 → Grows ws ds m add) ∧ (0 < c → Grows ws (ds ++ [c]) m add) := by
  rw [List.take_of_length_le (by omega)] at hv
  have hp : ws = [] ∨ 0 < wval ws * m := by
    rcases hpos with h | h
    · exact .inl h
    · exact .inr (Nat.mul_pos h hm0)
  constructor
  · rintro rfl
    refine ⟨by omega, hds, by omega, ?_⟩
    rcases hp with h | h
    · subst h; left; exact List.length_eq_zero_iff.1 (by simpa [← hn] using hd)
    · right; omega
  · intro h0
    refine ⟨by rw [wval_snoc, hd]; exact hv, hds.app hc, by simp; omega, .inr ?_⟩
    rw [wval_snoc, hd]
    have : 0 < W0 ^ n * c := Nat.mul_pos (Nat.pow_pos (by decide)) h0
    omega
set_option maxRecDepth 100000 in
set_option maxHeartbeats 2000000 in
theorem grown_any (w : World) (base : Nat) (v : Value) (ws : List Nat) (m add : Nat) (h : Row w base v ws) (hw : W32s ws) (hm : m < W0) (hm0 : 0 < m) (ha : add < W0) (hpos : ws = [] ∨ 0 < wval ws) (hlen : ws.length ≤ 100000) (hB : base ≤ w.heap.size) :
    Calls Tryz.prog 47 #[v, .int .u32 m, .int .u32 add] w (GrownOut w base ws m add) := by
  obtain ⟨i0, hi, hz0, hz1, hz2⟩ := info_parts info79
  obtain ⟨A, cap, rfl, hc, hmx, hA⟩ := h.formA
  unfold maxLen at hmx
  have H := Lib.hid h; clear h
  have Hw := Lib.hid hw; clear hw
  have Ha := Lib.hid ha
  have Hm := Lib.hid hm
  have Hm0 := Lib.hid hm0
  have Hp := Lib.hid hpos; clear hpos
  have HA := Lib.hid hA; clear hA
  generalize hn : ws.length = n at *
  have Hn := Lib.hid hn; clear hn
  unfold W0 at ha hm
  go_enter Tryz.func47, Tryz.ntmps47
  go_wp2
  go_loopw [7, 8] (fun cv iv wr => GrownRel w base A cap n ws m add cv iv wr) (fun _ i _ => n - (intOf i).toNat)
  case atStart => exact ⟨0, add, [], Nat.zero_le _, rfl, rfl, Ha.out, rfl, fun x hx => (by cases hx), by simp [wval], by have := H.out; unfold Row at this; rw [Hn.out] at this; simpa using this, Below.refl _ w⟩
  case round =>
    obtain ⟨k, c, ds, hk, rfl, rfl, hc', hd, hds, hv, ho, ht⟩ := hrel
    by_cases hlt : k < n
    · obtain ⟨g, rfl, hg⟩ := HA.out (by omega)
      have hkl : k < ws.length := by rw [Hn.out]; exact hlt
      have hcell : wr.cell? ⟨g, k, none⟩ = some (.int .u32 (ws[k] : Nat)) := by
        rw [World.ownsRow.cellAt ho k (by omega), List.getElem?_map, List.getElem?_append_right (by omega), hd, Nat.sub_self, List.getElem?_drop, Nat.add_zero, List.getElem?_eq_getElem hkl]; rfl
      have hfr := World.ownsRow.frozenAt ho k
      have hxw : ws[k] < W0 := Hw.out _ (List.getElem_mem _)
      have R := fun t (hxt : ws[k] * m + c = t) u hu cv iv h1 h2 => grown_round (w := w) (wr := wr) Hn.out hlt hc' Hw.out hd hds Hm.out hg hv ho ht rfl (x := ws[k]) (t := t) hxt (u := u) hu (cv := cv) (iv := iv) h1 h2
      have hmb := mul_bound hxw Hm.out
      generalize hx : ws[k] = x at *
      clear hx hkl
      have hR := Lib.hid R; clear R hv ho ht hd hds
      obtain ⟨t, ht0⟩ : ∃ t, x * m + c = t := ⟨_, rfl⟩
      have HT := Lib.hid ht0
      have htt : ((x : Int) * (m : Int) + (c : Int)) = (t : Int) := by rw [← ht0]; simp
      have h1b : 0 ≤ ((x : Int) * (m : Int)) := Int.mul_nonneg (by omega) (by omega)
      have h2b : ((x : Int) * (m : Int)) ≤ 18446744065119617025 := by rw [← Int.natCast_mul]; omega
      unfold W0 at hxw hc'
      clear ht0 hmb
      go_wp2
      go_roundw
      case rel => exact hR.out t HT.out _ (by simp) _ _ (by simp) (by simp)
      case measure => simp [intOf]; omega
    · obtain rfl : k = n := by omega
      have hfin := grow_end Hn.out hd hds Hm0.out Hp.out hv hc'
      have Hf := Lib.hid hfin; clear hfin hv
      have hb1 := ht.size
      have ho' : wr.ownsRow base 79 1 (.slice A ds.length cap) ds.length (ds.map w32) := by
        rw [List.drop_of_length_le (by rw [Hn.out]; exact Nat.le_refl _), List.append_nil] at ho
        rw [hd]; exact ho
      have HO := Lib.hid ho'; clear ho ho'
      have HT := Lib.hid ht; clear ht
      have Hds := Lib.hid hds; clear hds
      subst hd
      unfold W0 at hc'
      cases hz : decide ((c : Int) > 0)
      · have hz' : ¬ ((c : Int) > 0) := by simpa using hz
        go_wp2
        go_ret
        exact ⟨_, ds, rfl, HO.out, Hf.out.1 (by omega), HT.out⟩
      · have hz' : ((c : Int) > 0) := by simpa using hz
        go_wp2_with (at_builtin; refine wpList_append_own _ rfl _ _ 41 rfl base 79 i0 (.int .u32 0) 1 4 Tryz.underlying41 hi hz0 hz1 hz2 rfl (by decide) _ ds.length (ds.map w32) rfl (World.ownsRow.alloc HO.out _) ⟨wr.heap.size, 0, none⟩ 1 1 [.int .u32 c] rfl rfl ?c1 ?c2 ?c3 ?c4 ?c5 ?_)
        case c1 =>
          intro j u hu
          rw [addr_add, Nat.zero_add, (Blk.new _ _ _).cell]
          have e : (#[.int .u32 c] : Array Value)[j]? = [.int .u32 c][j]? := by rw [← Array.getElem?_toList]
          exact e.trans hu
        case c2 => intro u hu; simp at hu; subst hu; rfl
        case c3 => unfold maxLen; omega
        case c4 => omega
        case c5 => simp; omega
        intro v' w4 hown4 hgrow4 _
        have Hown := Lib.hid hown4; clear hown4
        have HG := Lib.hid hgrow4; clear hgrow4
        go_wp2
        go_ret
        exact ⟨_, ds ++ [c], rfl, by unfold Row; rw [List.length_append, List.map_append]; exact Hown.out, Hf.out.2 (by omega),
          (HT.out.alloc (by omega) _).grown HG.out (by simp; omega) (fun j hj => (HO.out.lt j hj).1)⟩
end Go.Proofs.YtbblbolpcdkggaaGreatFmt
/-
  Walks: surdbig's small: divided by one word.
-/
namespace Go.Proofs.YtbblbolpcdkggaaGreatFmt
open Go.RowKit
def SmallOut (w : World) (base : Nat) (ws : List Nat) (b : Nat) (e : Ending) (w' : World) : Prop :=
  ∃ v' rs, e = .returned (.tuple #[v', .int .u32 ((wval ws % b : Nat) : Int)]) ∧ Row w' base v' rs ∧ W32s rs ∧ wval rs = wval ws / b ∧ (rs = [] ∨ 0 < wval rs) ∧ rs.length ≤ ws.length ∧ Tch Nil w w'
def SmallRel (w : World) (base N n : Nat) (ws : List Nat) (b : Nat) (rv iv : Value) (wr : World) : Prop :=
  ∃ (k r : Nat) (qs : List Nat), k ≤ n ∧ rv = .int .u64 r ∧ iv = .int .i64 ((k : Int) - 1) ∧ r < b ∧ qs.length + k = n ∧ W32s qs ∧ wval (ws.drop k) = wval qs * b + r ∧
    wr.ownsRow base 79 1 (.slice (some ⟨N, 0, none⟩) n n) n ((List.replicate k 0 ++ qs).map w32) ∧ Tch Nil w wr
theorem or_wide (r x : Nat) (hx : x < W0) : (r * W0) ||| x = r * W0 + x := by
  have := Nat.two_pow_add_eq_or_of_lt (i := 32) (b := x) hx r
  rw [Nat.mul_comm r]; exact this.symm
theorem small_round {w wr : World} {base N n k r b : Nat} {ws qs : List Nat} (hn : ws.length = n) (hk : k < n) (hr : r < b) (_hb : b < W0) (hw : W32s ws) (hq : qs.length + (k + 1) = n) (hqs : W32s qs)
    (hv : wval (ws.drop (k + 1)) = wval qs * b + r) (ho : wr.ownsRow base 79 1 (.slice (some ⟨N, 0, none⟩) n n) n ((List.replicate (k + 1) 0 ++ qs).map w32)) (ht : Tch Nil w wr) (hN : w.heap.size ≤ N) {x t : Nat} (hx : ws[k] = x) (hxt : r * W0 + x = t) {u : Value} (hu : u = .int .u32 ((t / b : Nat) : Int)) {rv iv : Value} (h1 : rv = .int .u64 ((t % b : Nat) : Int)) (h2 : iv = .int .i64 ((k : Int) - 1)) :
    SmallRel w base N n ws b rv iv (wr.setCell ⟨N, k, none⟩ u) := by
  have hmw : x < W0 := by rw [← hx]; exact hw _ (List.getElem_mem _)
  have htb : t / b < W0 := by
    apply Nat.div_lt_of_lt_mul
    have : (r + 1) * W0 ≤ b * W0 := Nat.mul_le_mul_right _ hr
    rw [← hxt]; rw [Nat.add_mul] at this; omega
  refine ⟨k, t % b, (t / b) :: qs, by omega, h1, h2, Nat.mod_lt _ (by omega), by simp; omega, ?_, ?_, ?_, ht.setCell (fun h => by exfalso; have h' : N < w.heap.size := h; omega) _⟩
  · intro y hy
    rcases List.mem_cons.1 hy with rfl | hy
    · exact htb
    · exact hqs y hy
  · rw [List.drop_eq_getElem_cons (by omega : k < ws.length), hx]
    show x + W0 * wval (ws.drop (k + 1)) = (t / b + W0 * wval qs) * b + t % b
    rw [hv, Nat.add_mul, Nat.mul_comm (t / b) b]
    have e := Nat.div_add_mod t b
    have e2 : W0 * (wval qs * b + r) = W0 * wval qs * b + r * W0 := by rw [Nat.mul_add, Nat.mul_assoc, Nat.mul_comm W0 r]
    omega
  · have h3 := (World.ownsRow.stored ho k u).1
    have e : ((List.replicate (k + 1) 0 ++ qs).map w32).set k u = ((List.replicate k 0 ++ (t / b) :: qs)).map w32 := by
      have hrr : List.replicate (k + 1) 0 ++ qs = List.replicate k 0 ++ (0 :: qs) := by rw [List.replicate_succ', List.append_assoc]; rfl
      rw [hrr, List.map_append, List.set_append_right _ _ (by simp), hu]
      simp [w32]
    rw [e] at h3; exact h3
set_option maxRecDepth 100000 in
set_option maxHeartbeats 2000000 in
theorem small_any (w : World) (base : Nat) (v : Value) (ws : List Nat) (b : Nat) (h : Row w base v ws) (hw : W32s ws) (hb : b < W0) (hb0 : 0 < b) (hlen : ws.length ≤ 100000) (hB : base ≤ w.heap.size) :
    Calls Tryz.prog 35 #[v, .int .u32 b] w (SmallOut w base ws b) := by
  obtain ⟨i0, hi, hz0, hz1, hz2⟩ := info_parts info79
  obtain ⟨A, cap, rfl, hc, hmx, hA⟩ := h.formA
  unfold maxLen at hmx
  have H := Lib.hid h; clear h
  have Hw := Lib.hid hw; clear hw
  have Hb := Lib.hid hb
  have HA := Lib.hid hA; clear hA
  generalize hn : ws.length = n at *
  have Hn := Lib.hid hn; clear hn
  unfold W0 at hb
  go_enter Tryz.func35, Tryz.ntmps35
  go_wp2_with (at_make; refine wpList_make_full _ rfl _ _ 41 rfl base 79 i0 (.int .u32 0) 1 Tryz.underlying41 hi hz0 hz1 _ _ _ _ n rfl rfl rfl rfl (by rw [hz2]; omega) (by unfold maxLen; omega) hB ?_)
  intro w2 hown2 hgrow2
  have ht2 := Tch.grown_none hgrow2
  have hs2 := hgrow2.size
  have HO := Lib.hid hown2; clear hown2
  have HG := Lib.hid hgrow2; clear hgrow2
  go_wp2
  go_loopw [7, 8] (fun rv iv wr => SmallRel w base w.heap.size n ws b rv iv wr) (fun _ i _ => (intOf i + 1).toNat)
  case atStart =>
    refine ⟨n, 0, [], Nat.le_refl _, rfl, by simp, hb0, by simp, fun x hx => (by cases hx), ?_, ?_, ht2⟩
    · rw [List.drop_of_length_le (by rw [Hn.out]; exact Nat.le_refl _)]; simp [wval]
    · have := HO.out
      show w2.ownsRow _ _ _ _ _ _
      have e : (madeCells #[Value.int .u32 0] n).toList = (List.replicate n 0 ++ []).map w32 := by
        rw [toList_madeCells_one]; simp [w32]
      exact e ▸ this
  case round =>
    obtain ⟨k, r, qs, hk, rfl, rfl, hr, hq, hqs, hv, ho, ht⟩ := hrel
    rcases Nat.eq_zero_or_pos k with rfl | hk0
    · have Hfin := Lib.hid hv; clear hv
      have HR := Lib.hid ho; clear ho
      have HT := Lib.hid ht; clear ht
      unfold W0 at *
      have HR2 : Row wr base (.slice (some ⟨w.heap.size, 0, none⟩) n n) qs := by
        have h1 := HR.out
        have h2 : qs.length = n := by omega
        unfold Row; rw [h2]
        simpa using h1
      have HT2 := Lib.hid HT.out.size
      go_wp2_with (go_at_call 49; refine (trimmed_any wr base _ qs HR2).mono ?_)
      rintro e w3 ⟨rfl, v3, rs, rfl, hrs, ⟨htr1, htr2, htr3, htr4⟩, _⟩
      have HRS := Lib.hid hrs; clear hrs
      have HT1 := Lib.hid htr1; clear htr1
      have HT3 := Lib.hid htr3; clear htr3
      go_wp2
      go_ret2
      have hv := Hfin.out
      rw [List.drop_zero] at hv
      have e1 : wval ws % b = r := by rw [hv, Nat.add_comm, Nat.add_mul_mod_self_right, Nat.mod_eq_of_lt hr]
      have e2 : wval ws / b = wval qs := by rw [hv, Nat.add_comm, Nat.add_mul_div_right _ _ hb0, Nat.div_eq_of_lt hr, Nat.zero_add]
      exact ⟨v3, rs, by rw [e1]; rfl, HRS.out, HT3.out hqs, by rw [e2]; exact HT1.out, htr2, by have := Hn.out; omega, HT.out⟩
    · obtain ⟨j, rfl⟩ := Nat.exists_eq_succ_of_ne_zero (by omega : k ≠ 0)
      have hjl : j < ws.length := by have := Hn.out; omega
      obtain ⟨g, rfl, hg⟩ := HA.out (by omega)
      have hcell : wr.cell? ⟨g, j, none⟩ = some (.int .u32 (ws[j] : Nat)) := by
        have h1 := Row.cell (w := w) (base := base) (g := g) (cap := cap) (ws := ws) (by rw [Hn.out]; exact H.out) j hjl
        exact ht.cell h1 (fun h => h)
      have hxw : ws[j] < W0 := Hw.out _ (List.getElem_mem _)
      have hcell2 : wr.cell? ⟨w.heap.size, j, none⟩ = some (.int .u32 0) := by
        rw [World.ownsRow.cellAt ho j (by omega), List.getElem?_map, List.getElem?_append_left (by simp), List.getElem?_replicate, if_pos (by omega)]; rfl
      have hfr := World.ownsRow.frozenAt ho j
      have R := fun t (hxt : r * W0 + ws[j] = t) u hu rv iv h1 h2 => small_round (w := w) (wr := wr) (N := w.heap.size) Hn.out (show j < n by omega) hr Hb.out Hw.out hq hqs hv ho ht (Nat.le_refl _) rfl (x := ws[j]) (t := t) hxt (u := u) hu (rv := rv) (iv := iv) h1 h2
      generalize hx : ws[j] = x at *
      clear hx hjl
      have hR := Lib.hid R; clear R hv ho ht hq hqs
      have hor := or_wide r x hxw
      obtain ⟨t, ht0⟩ : ∃ t, r * W0 + x = t := ⟨_, rfl⟩
      have HT := Lib.hid ht0
      rw [ht0] at hor
      have hj1 : ((j.succ : Nat) : Int) - 1 = (j : Int) := by omega
      have hrw : r < W0 := Nat.lt_trans hr Hb.out
      have htw : t < b * W0 := by
        have := Nat.mul_le_mul_right W0 (show r + 1 ≤ b from hr)
        rw [Nat.add_mul] at this; omega
      have hq1 : t / b < W0 := Nat.div_lt_of_lt_mul htw
      have hq2 : t % b < b := Nat.mod_lt _ hb0
      unfold W0 at hxw hor ht0 hrw hq1
      have hb' := u64_or_nat (r * 4294967296) x (by omega) (by omega)
      rw [hor, Int.natCast_mul] at hb'
      have hq3 : ((t : Int) / (b : Int)) = ((t / b : Nat) : Int) := by simp
      have hq4 : ((t : Int) % (b : Int)) = ((t % b : Nat) : Int) := by simp
      have hbz : ((b : Int) == 0) = false := by rw [beq_eq_false_iff_ne]; omega
      clear htw
      rw [hj1]
      go_wp2
      go_roundw
      case rel =>
        have e1 : (t : Int).tdiv (b : Int) = ((t / b : Nat) : Int) := (Int.ofNat_tdiv t b).symm
        have e2 : (t : Int).tmod (b : Int) = ((t % b : Nat) : Int) := (Int.ofNat_tmod t b).symm
        have hb2 : bits .or .u64 ((r : Int) * 4294967296) x = (t : Int) := hb'
        have e3 : ∀ q : Nat, q < 4294967296 → (q : Int) % 18446744073709551616 % 4294967296 = (q : Int) := fun q hq => by omega
        have e3 := e3 _ hq1
        rw [hb2, e1, e2, IntKind.wrap_u64]
        exact hR.out t HT.out _ (by rw [e3]) _ _ rfl rfl
      case measure => simp [intOf]
end Go.Proofs.YtbblbolpcdkggaaGreatFmt
