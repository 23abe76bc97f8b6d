/- Layer 12: how the arguments read, and the tables that the rows list. -/
import Derived.Test.YtgakeclocbfnpaaDoorCards
import Derived.Test.YtgakeclocbfnpaaDoorTie
import Derived.Test.YtgakeclocbfnpaaDoorTq
import Derived.Test.YtgakeclocbfnpaaDoorClose
import Derived.Test.YtgakeclocbfnpaaDoorOwn
import Derived.Lib.SmallJoins
import Derived.Deep.Strs
import Derived.Lib.LaidU8
import Derived.Lib.LaidU8T
import Derived.PinnedBridge
import Derived.ChangeMaps5
namespace Go.Proofs.YtgakeclocbfnpaaDoor.Laws
open Go Go.ChangeShapes Go.WideShapes Go.ChangeAt Go.RowKit Go.Joins Go.Lib
open Go.Proofs Go.Proofs.YtgakeclocbfnpaaDoor Go.Proofs.YtgakeclocbfnpaaDoor.T Go.Proofs.YtgakeclocbfnpaaDoor.Own
set_option linter.unusedVariables false
set_option maxRecDepth 100000

theorem own : ownKnob Tryd.prog.godebug = none := by kernel_rfl
theorem laidOut : laidOutB Tryd.prog = true := by kernel_rfl
theorem cells9 : Tryd.prog.cellsOf 9 = 1 := by kernel_rfl

abbrev laid2 : List (String × DataW Unit) := [("unicode/utf8.acceptRanges", Rows.laid_unicode_utf8_acceptRanges), ("unicode/utf8.first", Rows.laid_unicode_utf8_first)]
theorem u8_of {W : World} (h : laidMetH Tryd.prog laid2 W) : U8 W := by
  rw [Close.laidMetH_plain' Tryd.prog laid2 W (by kernel_rfl)] at h
  obtain ⟨ps, hv, _⟩ := h
  have h4 := LaidVars_reads hv "unicode/utf8.acceptRanges" acceptData (by
    have : (acceptData : DataW Unit) = Rows.laid_unicode_utf8_acceptRanges := by kernel_rfl
    rw [this]; simp [laid2])
  have h3 := LaidVars_reads hv "unicode/utf8.first" firstData (by
    have : (firstData : DataW Unit) = Rows.laid_unicode_utf8_first := Pinned.utf8First_eq.symm
    rw [this]; simp [laid2])
  exact utf8Tabs_of_reads Tryd.lays260 ⟨by kernel_rfl, by kernel_rfl, by kernel_rfl, by kernel_rfl, by kernel_rfl, by kernel_rfl, by kernel_rfl⟩ h3 h4

theorem open_str {H : Type} {enc : TypeId × Value → H} {W : World} {base : Nat} {v : Value} {d : DataW H} {p : List MemPlace} (hv : Value.okWide Tryd.prog W .any base 9 v) (h : DataW.Trod enc Tryd.prog W 0 (fun _ => true) true 9 v d p) :
    ∃ s : ByteArray, v = .string s ∧ s.size ≤ maxLen := by
  obtain ⟨s, e, _, _, hs⟩ := Go.ChangeMaps.open_string Tryd.underlying9 hv h
  exact ⟨s, e, hs⟩
theorem open_sl {H : Type} {enc : TypeId × Value → H} {W : World} {base : Nat} {v : Value} {d : DataW H} {p : List MemPlace} (hv : Value.okWide Tryd.prog W .any base 31 v) (h : DataW.Trod enc Tryd.prog W 0 (fun _ => true) true 31 v d p) :
    ∃ A l c, v = .slice A l.length c ∧ Rd W A l ∧ l.length ≤ maxLen ∧ ∀ x ∈ l, x.size ≤ maxLen := by
  obtain ⟨a0, len, cap, rfl⟩ := okWide_slice Tryd.underlying31 hv
  obtain ⟨fuel, hf⟩ := h
  rcases Deep.open_strs Tryd.underlying31 Tryd.underlying9 cells9 hf with ⟨hcs, hx⟩ | ⟨a, len', cap', m, Sx, hcs, _, hl, hm, hmm, hx, hcell⟩
  · simp [Value.cells] at hcs
    obtain ⟨rfl, rfl, rfl⟩ := hcs
    exact ⟨none, [], 0, rfl, .inl rfl, Nat.zero_le _, by simp⟩
  · simp [Value.cells] at hcs
    obtain ⟨rfl, rfl, rfl⟩ := hcs
    simp only [Prod.mk.injEq] at hx
    obtain ⟨rfl, rfl⟩ := hx
    simp only [if_true] at hmm
    have hmm2 := hmm.symm
    subst hmm2
    refine ⟨some a, (List.range len).map Sx, cap, by simp, ?_, by simp; omega, fun x hx => ?_⟩
    · by_cases h0 : len = 0
      · subst h0; exact .inl rfl
      · obtain ⟨b, off, spot⟩ := a
        have hc0 := (hcell 0 (by omega)).1
        have hspot : spot = none := by simpa [Addr.add] using World.cell?_spot hc0
        subst hspot
        refine .inr ⟨b, off, rfl, fun i x hx => ?_⟩
        have hi : i < len := by have := (List.getElem?_eq_some_iff.1 hx).1; simpa using this
        have := (hcell i (by omega)).1
        have he : x = Sx i := by simp [hi] at hx; exact hx.symm
        rw [he, ← this]
        by_cases hz : i = 0
        · subst hz; simp [Addr.add]
        · simp [Addr.add, hz]
    · obtain ⟨i, hi, rfl⟩ := List.mem_map.1 hx
      exact (hcell i (by simp at hi; omega)).2

theorem cells4 : Tryd.prog.cellsOf 4 = 1 := by kernel_rfl
theorem open_bl {H : Type} {enc : TypeId × Value → H} {W : World} {base : Nat} {v : Value} {d : DataW H} {p : List MemPlace} (hv : Value.okWide Tryd.prog W .any base 38 v) (h : DataW.Trod enc Tryd.prog W 0 (fun _ => true) true 38 v d p) :
    ∃ A n c, ∃ T : Nat → Bool, v = .slice A n c ∧ n ≤ maxLen ∧ (0 < n → ∃ b off, A = some ⟨b, off, none⟩ ∧ ∀ i, i < n → W.cell? ⟨b, off + i, none⟩ = some (.bool (T i))) := by
  obtain ⟨a0, len, cap, rfl⟩ := okWide_slice Tryd.underlying38 hv
  obtain ⟨fuel, hf⟩ := h
  rcases Deep.open_slice1 Tryd.underlying38 cells4 hf with ⟨hcs, hx⟩ | ⟨a, len', cap', m, n, V, D, Pl, hcs, hb, hl, hm, hmm, hx, hcell⟩
  · simp [Value.cells] at hcs
    obtain ⟨rfl, rfl, rfl⟩ := hcs
    exact ⟨none, 0, 0, fun _ => false, rfl, Nat.zero_le _, fun h => absurd h (Nat.lt_irrefl _)⟩
  · simp [Value.cells] at hcs
    obtain ⟨rfl, rfl, rfl⟩ := hcs
    simp only [if_true] at hmm
    have hmm2 := hmm.symm
    subst hmm2
    have each : ∀ i, i < cap → ∃ t : Bool, V i = .bool t := fun i hi => by
      obtain ⟨t, h1, h2⟩ := DataW.trod_bool Tryd.underlying4 (hcell i hi).2
      exact ⟨t, by simpa using h1⟩
    obtain ⟨T, hS⟩ := Deep.choose_lt each
    refine ⟨some a, len, cap, T, rfl, by omega, fun h0 => ?_⟩
    obtain ⟨b, off, spot⟩ := a
    have hc0 := (hcell 0 (by omega)).1
    have hspot : spot = none := by simpa [Addr.add] using World.cell?_spot hc0
    subst hspot
    refine ⟨b, off, rfl, fun i hi => ?_⟩
    have := (hcell i (by omega)).1
    rw [hS i (by omega)] at this
    rw [← this]
    by_cases hz : i = 0
    · subst hz; simp [Addr.add]
    · simp [Addr.add, hz]

noncomputable def laidWorld (os : Os) : World :=
  let w0 := World.holding Tryd.prog os ⟨#[], #[], []⟩
  let set := fun (cs : Array Value) (o : Obj) => match o with | .cells _ t frozen => Obj.cells cs t frozen | o => o
  { w0 with heap := ((w0.heap.modify 0 (set (Lib.firstTab.map (Value.int .u8)).toArray)).modify 1 (set (((List.range 16).flatMap fun i => [(Lib.accLo i : Int), (Lib.accHi i : Int)]).map (Value.int .u8)).toArray)) }
theorem laidWorld_met (os : Os) (args : Array Value) : laidMetH Tryd.prog laid2 ((laidWorld os).forCall (fun _ _ => 0) ⟨#[], args, []⟩).memory :=
  (Close.laidMetH_plain' _ _ _ (by kernel_rfl)).2 (laidMet_of_run' 8 (by kernel_rfl) (by kernel_rfl))

end Go.Proofs.YtgakeclocbfnpaaDoor.Laws
