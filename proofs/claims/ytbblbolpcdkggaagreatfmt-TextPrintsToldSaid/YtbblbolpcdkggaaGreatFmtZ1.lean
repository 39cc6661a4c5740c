/-
  surdlaw29.TextPrints, lifted: for every slice of strings, over the listed variables.
-/
import Derived.Test.YtbblbolpcdkggaaGreatFmtC6
import Derived.Test.YtbblbolpcdkggaaGreatFmtTie
import Derived.ProofKit
import Derived.SizedLaws
import Derived.SliceStrings
import Derived.OpenShut
import Derived.LaidMore
import Derived.Lay
import Derived.SevenTiedAt
import Derived.Stop.Joined
import Derived.Stop.JoinedTold
import Derived.Stop.LaidErr
namespace Go.Proofs.YtbblbolpcdkggaaGreatFmt
open Go.RowKit
theorem law_any (w : World) (v : Value) (ss : List ByteArray) (a : Addr) (h : SliceOf w v ss) (hsz : ∀ s ∈ ss, s.size ≤ maxLen) (hn : ss.length * 16 ≤ 140737488351232) (hw : 0 < w.heap.size)
    (hE : w.cell? ⟨0, 0, none⟩ = some (.iface 243 (.pointer (some a)))) (hL : w.cell? ⟨3, 0, none⟩ = some (.int .i64 8)) : Calls Tryz.prog 3 #[v] w (TrueOut w) :=
  textPrints_any w v ss a h hsz hn hE (awake_any w a hw hE hL)
theorem gEOF : Tryz.prog.globalNamed "io.EOF" = some 0 := by kernel_rfl
theorem gEOFType : (Tryz.prog.globals[0]?).map (·.type) = some 55 := by kernel_rfl
theorem gLeaf : Tryz.prog.globalNamed "math/big.leafSize" = some 3 := by kernel_rfl
theorem gLeafType : (Tryz.prog.globals[3]?).map (·.type) = some 3 := by kernel_rfl
theorem cells245 : Tryz.prog.cellsOf 245 = 1 := by kernel_rfl
theorem cells9' : Tryz.prog.cellsOf 9 = 1 := by kernel_rfl
theorem bytes9' : Tryz.prog.bytesOf 9 = 16 := by kernel_rfl
theorem star_err : "*" ++ "errors.errorString" = "*errors.errorString" := by decide
theorem row243 (u : TypeId) (h : Tryz.prog.typeName? 3 u = some "*errors.errorString") : u = 243 :=
  typeName_ptr_named (nm := "errors.errorString") (by rw [star_err]; kernel_rfl) (by kernel_rfl) (by decide) u (by rw [star_err]; exact h)
/-- What the listed variables give the walk: io.EOF, leafSize. -/
theorem of_laid {W : World} (h : laidMetH Tryz.prog Rows.textPrintsRow.laid W) :
    ∃ a : Addr, W.cell? ⟨0, 0, none⟩ = some (.iface 243 (.pointer (some a))) ∧ W.cell? ⟨3, 0, none⟩ = some (.int .i64 8) := by
  rw [MakeChecks.laidMetH_plain _ _ _ (by kernel_rfl)] at h
  have h6 := h.tail.tail.tail.tail.tail.tail
  obtain ⟨a, s, hv, _, _, _⟩ := laid_sentinel h6 gEOF gEOFType Tryz.underlying55 row243 Tryz.underlying243 Tryz.underlying245 rfl rfl Tryz.underlying9 cells245 cells9'
  have h9 := h6.tail.tail.tail
  obtain ⟨ps, ⟨g, t, cs, f, p, q, hg, ht, hv9, hd, _, _⟩, _, _⟩ := h9
  obtain rfl := Option.some.inj (gLeaf.symm.trans hg)
  obtain rfl := Option.some.inj (gLeafType.symm.trans ht)
  obtain ⟨k, e1, e2, _⟩ := DataW.trod_int Tryz.underlying3 hd
  have hk : k = 8 := by
    have e3 : (Rows.laid_math_big_leafSize : DataW Unit) = .lit (.int .i64 8) := rfl
    rw [e3] at e2
    simp only [Prod.mk.injEq, DataW.lit.injEq, Lit.int.injEq, true_and] at e2
    exact e2.1.symm
  subst hk
  refine ⟨a, ?_, ?_⟩
  · simpa using World.var?_cell gEOF hv 0
  · have := World.var?_cell gLeaf hv9 0
    rw [Array.eq_one_of_toList e1] at this
    simpa using this
theorem ownK : ownKnob Tryz.prog.godebug = none := by kernel_rfl
theorem laidOutT : laidOutB Tryz.prog = true := by kernel_rfl
/-- What the outer form says of a slice: nil, or in a block that is there. -/
theorem slice_form {P : Program} {W : World} {base : Nat} {t e : TypeId} {v : Value} (hu : P.underlying t = some (.slice e)) (h : Value.okWide P W .any base t v) :
    v = .slice none 0 0 ∨ ∃ b off len cap, v = .slice (some ⟨b, off, none⟩) len cap ∧ len ≤ cap ∧ b < W.heap.size := by
  obtain ⟨a, len, cap, rfl⟩ := Go.WideShapes.okWide_slice hu h
  simp only [Value.okWide, hu, Cell.okWide] at h
  rcases a with _ | ⟨b, off, sp⟩
  · left
    rcases len with _ | len
    · rcases cap with _ | cap
      · rfl
      · simp [Cell.ok, hu] at h
    · simp [Cell.ok, hu] at h
  · right
    simp only [Cell.ok, hu] at h
    obtain ⟨hl, _, _, hs, row, cells, hsh, _⟩ := h
    simp only at hs
    subst hs
    refine ⟨b, off, len, cap, rfl, hl, ?_⟩
    rcases Nat.lt_or_ge b W.heap.size with h | h
    · exact h
    · simp [World.shape?, Array.getElem?_eq_none h] at hsh
end Go.Proofs.YtbblbolpcdkggaaGreatFmt
/-
  surdlaw29.TextPrints, lifted: for every slice of strings, over the listed variables: the start that fits.
-/
namespace Go.Proofs.YtbblbolpcdkggaaGreatFmt
open Go.ChangeShapes Go.WideShapes Go.ChangeAt Go.RowKit
open Go.Extern.Stop Go.Stop Go.Extern
/-- A start at a world of one's own making, on a tape that F answers. -/
theorem start_of {H : Type} {enc : TypeId × Value → H} {C : Checked} {os : Os} {f : FuncId} {fn : Func} {s : OpenSpec} {conds : List PathCond} {apart : Bool} {laid : List (String × DataW Unit)} (w0 : World) (args : Array Value) (hos : w0.os = os)
    (hsh : (w0.forCall (fun _ _ => 0) ⟨#[], args, []⟩).Shaped C.prog)
    (hok : Input.okWideB C.prog (w0.forCall (fun _ _ => 0) ⟨#[], args, []⟩) f ⟨#[], args, []⟩ = true)
    (hrow : s.preRow enc C.prog fn conds apart laid (w0.forCall (fun _ _ => 0) ⟨#[], args, []⟩).memory args) (F : Stop.Interp) :
    ∃ (w : World) (tape : Tape) (i : Input), w.os = os ∧ (w.forCall tape i).Shaped C.prog ∧ i.vars = [] ∧ Input.okWide C.prog (w.forCall tape i) .any w.heap.size f i ∧
      s.preRow enc C.prog fn conds apart laid (w.forCall tape i).memory i.args ∧ ({} : Assume).holds C.prog (lone (Frame.enter C.prog f i.args .normal) [] (w.forCall tape i)) ∧ F.answers tape :=
  ⟨w0, F.over fun _ _ => 0, ⟨#[], args, []⟩, hos, hsh, (Input.okWide_of_okWideB (base := 0) hok).1, (Input.okWide_of_okWideB hok).2, hrow, by
    simp only [Assume.holds]
    exact ⟨by simp, by simp, by simp, by simp, by simp⟩, F.over_answers _⟩
set_option maxRecDepth 100000 in
theorem shaped_start (os : Os) : ((World.laidAll Tryz.prog os Rows.textPrintsRow.laid).forCall (fun _ _ => 0) ⟨#[], #[.slice none 0 0], []⟩).Shaped Tryz.prog :=
  World.shaped_of_ZipB (by kernel_rfl) (by kernel_rfl)
theorem laid_start (os : Os) : laidMetH Tryz.prog Rows.textPrintsRow.laid ((World.laidAll Tryz.prog os Rows.textPrintsRow.laid).forCall (fun _ _ => 0) ⟨#[], #[.slice none 0 0], []⟩).memory := by
  rw [MakeChecks.laidMetH_plain _ _ _ (by kernel_rfl)]
  exact laidMet_laidAll _ (by kernel_rfl) (by kernel_rfl)
theorem start_fits (os : Os) (H : Type) (enc : TypeId × Value → H) (F : Stop.Interp) :
    ∃ (w : World) (tape : Tape) (i : Input), w.os = os ∧ (w.forCall tape i).Shaped Tryz.checked.prog ∧ i.vars = [] ∧ Input.okWide Tryz.checked.prog (w.forCall tape i) .any w.heap.size 3 i ∧
      (OpenSpec.ofChange Rows.textPrintsSpec).preRow enc Tryz.checked.prog Tryz.f3 [] false Rows.textPrintsRow.laid (w.forCall tape i).memory i.args ∧
      ({} : Assume).holds Tryz.checked.prog (lone (Frame.enter Tryz.checked.prog 3 i.args .normal) [] (w.forCall tape i)) ∧ F.answers tape :=
  start_of (C := Tryz.checked) (World.laidAll Tryz.prog os Rows.textPrintsRow.laid) #[.slice none 0 0] (World.laidAll_os _ _ _) (shaped_start os) (by kernel_rfl)
    (OpenSpec.preRow_of_B rfl 8 (by kernel_rfl) (by kernel_rfl) (laid_start os)) F
end Go.Proofs.YtbblbolpcdkggaaGreatFmt
/-
  surdlaw29.TextPrints, lifted: for every slice of strings, over the listed variables.
-/
namespace Go.Proofs.YtbblbolpcdkggaaGreatFmt
open Go.ChangeShapes Go.WideShapes Go.ChangeAt Go.RowKit
open Go.Extern.Stop Go.Stop Go.Extern
set_option maxRecDepth 100000 in
theorem lifted (os : Os) (started : os.Started) (H : Type) (enc : TypeId × Value → H) :
    ReturnsInTold none {} Tryz.checked os 3 .any Input.okWide ((OpenSpec.ofChange Rows.textPrintsSpec).preRow enc Tryz.prog Tryz.f3 [] false Rows.textPrintsRow.laid)
      (fun F => ((OpenSpec.ofChange Rows.textPrintsSpec).at F.told).post enc Tryz.prog Tryz.f3 false true false false) (aloneAtReturn Tryz.prog) nothingAlways := by
  refine returnsInTold_of_row (C := Tryz.checked) (s := OpenSpec.ofChange Rows.textPrintsSpec) (by kernel_rfl) ownK started (by kernel_rfl) Tryz.func3 (start_fits os H enc) ?_
  intro F W base args ds gs before _ _ hval0 hW _ _ hsz0 hL _
  have hsz : (DataW.weightsEach Tryz.prog (Tryz.f3.params.toList ++ (OpenSpec.ofChange Rows.textPrintsSpec).bare.plain.varTypes Tryz.prog) (ds ++ gs)).all (· ≤ reachBytes) = true := hsz0
  have hval : ∀ (j : Nat) t v, Tryz.f3.params[j]? = some t → args[j]? = some v → Value.okWide Tryz.prog W .any base t v := hval0
  have hW' := hW
  obtain ⟨p, q, hA0, hV, rfl, _, _⟩ := hW
  have hA : DataW.TrodAll enc Tryz.prog W 0 (fun _ => true) true Tryz.f3.params.toList args.toList ds p := hA0
  rw [Tryz.params3] at hA hval hsz
  obtain ⟨v0, d0, rfl, rfl, h0⟩ := trodAll_one hA
  obtain ⟨rfl, rfl⟩ := trodVars_none hV
  have h0k := h0
  obtain ⟨fuel, hf⟩ := h0
  clear hA0 hval0 hsz0
  simp only [List.append_nil] at hW'
  have hlt : ∀ x ∈ p, x.block < W.heap.size := fun x hx => by simpa using hW'.lt x hx
  obtain ⟨a, hE, hLf⟩ := of_laid hL
  have hw : 0 < W.heap.size := by
    rcases Nat.lt_or_ge 0 W.heap.size with h | h
    · exact h
    · simp [World.cell?, Array.getElem?_eq_none h] at hE
  have hargs : ∀ (W' : World), Below W.heap.size W W' → DataW.Trod enc Tryz.prog W' 0 (fun b => decide (b < W.heap.size)) true 22 v0 d0 p :=
    fun W' hn => Below.trod laidOutT (by kernel_rfl) (of_decide_eq_true (by kernel_rfl)) h0k hn hlt
  have hsl : ∃ ss : List ByteArray, SliceOf W v0 ss ∧ (∀ s ∈ ss, s.size ≤ maxLen) ∧ ss.length * 16 ≤ 140737488351232 := by
    rcases slice_form Tryz.underlying22 (hval 0 22 v0 rfl rfl) with rfl | ⟨b, off, len, cap, rfl, hlc, hb⟩
    · exact ⟨[], .inl ⟨rfl, rfl⟩, by simp, by simp⟩
    · rcases open_strings Tryz.underlying22 Tryz.underlying9 cells9' hf with ⟨hcs, _⟩ | ⟨a', len', cap', ss, hcs, _, hl, hm, hz, hx, hcell, hws⟩
      · simp [Value.cells] at hcs
      · simp [Value.cells] at hcs
        obtain ⟨rfl, rfl, rfl⟩ := hcs
        simp only [Prod.mk.injEq] at hx
        obtain ⟨rfl, rfl⟩ := hx
        simp only [if_true] at hz
        have htl : (ss.take len).length = len := by rw [List.length_take]; omega
        have hreach := sized_slice hsz (j := 0) (t := 22) (e := 9) rfl rfl Tryz.underlying22
        rw [bytes9'] at hreach
        simp only [Go.ChangeShapes.strs, List.length_map, List.length_take, List.length_drop, reachBytes] at hreach
        refine ⟨ss.take len, .inr ⟨b, off, cap, by rw [htl], fun j hj => ?_, by omega, hb⟩, fun s hs => hws s (List.mem_of_mem_take hs), by omega⟩
        have hjl : j < len := by omega
        have hc := hcell j (by omega)
        rw [addr_add] at hc
        rw [hc, List.getElem_take]
        congr 2
        rw [List.getD_eq_getElem?_getD, List.getElem?_eq_getElem (by omega)]; rfl
  obtain ⟨ss, hS, hss, hn⟩ := hsl
  refine (law_any W v0 ss a hS hss hn hw hE hLf).mono fun e W' ⟨he, ht⟩ => ?_
  subst he
  have hb := ht.whole
  exact ⟨_, rfl, _, _, _, [], p, [], hW', trodAll_mk1 (shut_bool Tryz.underlying4 _), trodAll_mk1 (hargs _ hb), rfl, hb.frame _, fun h => by cases h⟩
end Go.Proofs.YtbblbolpcdkggaaGreatFmt
