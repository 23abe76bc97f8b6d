/- Layer 7: the table that the rows list, and how the arguments read. -/
import Derived.Test.YtfdcacjfngjmdaaDoorCards
import Derived.Test.YtfdcacjfngjmdaaDoorTie
import Derived.Test.YtfdcacjfngjmdaaDoorDb
import Derived.Test.YtfdcacjfngjmdaaDoorClose
import Derived.Test.YtfdcacjfngjmdaaDoorOwn
import Derived.Lib.SmallJoins
import Derived.Deep.Strs
import Derived.Deep.SlicePairs
import Derived.SizedLaws
namespace Go.Proofs.YtfdcacjfngjmdaaDoor.Laws
open Go Go.ChangeShapes Go.WideShapes Go.ChangeAt Go.RowKit Go.Joins Go.Lib Go.Deep
open Go.Proofs Go.Proofs.YtfdcacjfngjmdaaDoor Go.Proofs.YtfdcacjfngjmdaaDoor.T Go.Proofs.YtfdcacjfngjmdaaDoor.Own
set_option linter.unusedVariables false
set_option linter.unusedSimpArgs false
set_option maxRecDepth 100000

theorem own : ownKnob Tryd.prog.godebug = none := by kernel_rfl
theorem laidOut : laidOutB Tryd.prog = true := by kernel_rfl
theorem cells9 : Tryd.prog.cellsOf 9 = 1 := by kernel_rfl
theorem bytes9 : Tryd.prog.bytesOf 9 = 16 := by kernel_rfl

abbrev laid1 : List (String × DataW Unit) := [("marshalyard/crc.halves", Rows.laid_marshalyard_crc_halves)]
theorem hv_of {W : World} (h : laidMetH Tryd.prog laid1 W) : Hv W := by
  have ht := Close.tab_of_laid (P := Tryd.prog) (W := W) (laid := laid1) (name := "marshalyard/crc.halves") (g := 0) (t := 115) (e := 96) (n := 16) (zs := hz) (k := .u16) rfl (by
    show _ ∈ laid1
    have : (Lib.tabData .u16 hz : DataW Unit) = Rows.laid_marshalyard_crc_halves := by kernel_rfl
    rw [this]; simp [laid1]) (by kernel_rfl) (by kernel_rfl) Tryd.underlying115 Tryd.underlying96 (by kernel_rfl) (by kernel_rfl) h
  intro i hi
  have hr := ht.cell (g := 0) (by kernel_rfl) i (by simpa [hz] using hi)
  exact hr
noncomputable def laidWorld (os : Os) : World :=
  let w0 := World.holding Tryd.prog os ⟨#[], #[], []⟩
  let set := fun (cs : Array Value) (o : Obj) => match o with | .cells _ t frozen => Obj.cells cs t frozen | o => o
  { w0 with heap := w0.heap.modify 0 (set (hz.map (Value.int .u16)).toArray) }
theorem laidWorld_met (os : Os) (args : Array Value) : laidMetH Tryd.prog laid1 ((laidWorld os).forCall (fun _ _ => 0) ⟨#[], args, []⟩).memory :=
  (Close.laidMetH_plain' _ _ _ rfl).2 (laidMet_of_run' 8 (by kernel_rfl) (by kernel_rfl))
section
variable {H : Type} {enc : TypeId × Value → H} {W : World}
theorem wAll_mem {P : Program} {e : TypeId} : ∀ {l : List (DataW H)} {d : DataW H}, d ∈ l → ∀ n ∈ d.weights P e, n ∈ DataW.weightsAll P e l
  | c :: l, d, hd, n, hn => by
    unfold DataW.weightsAll
    rcases List.mem_cons.1 hd with rfl | hd
    · exact List.mem_append_left _ hn
    · exact List.mem_append_right _ (wAll_mem hd n hn)
theorem slice_w {t e : TypeId} {elems spare : List (DataW H)} (ht : Tryd.prog.underlying t = some (.slice e)) (hw : ∀ n ∈ (DataW.slice elems spare).weights Tryd.prog t, n ≤ reachBytes) :
    elems.length * Tryd.prog.bytesOf e ≤ reachBytes ∧ ∀ d ∈ elems, ∀ n ∈ d.weights Tryd.prog e, n ≤ reachBytes := by
  have e1 : (DataW.slice elems spare).weights Tryd.prog t = (elems.length + spare.length) * Tryd.prog.bytesOf e :: (DataW.weightsAll Tryd.prog e elems ++ DataW.weightsAll Tryd.prog e spare) := by
    conv => lhs; unfold DataW.weights
    rw [ht]
  rw [e1] at hw
  refine ⟨Nat.le_trans (Nat.mul_le_mul_right _ (Nat.le_add_right _ _)) (hw _ (List.mem_cons_self ..)), fun d hd n hn => hw n (List.mem_cons_of_mem _ (List.mem_append_left _ (wAll_mem hd n hn)))⟩
theorem lit_w {t : TypeId} {s : ByteArray} (hw : ∀ n ∈ (DataW.lit (.string s.data.toList) : DataW H).weights Tryd.prog t, n ≤ reachBytes) : s.size ≤ reachBytes := by
  have := hw s.data.toList.length (by unfold DataW.weights; simp)
  simpa using this
/-- A list of texts among the arguments, and its sizes. -/
theorem open_texts {base : Nat} {v : Value} {d : DataW H} {p : List MemPlace} (hv : Value.okWide Tryd.prog W .any base 22 v) (h : DataW.Trod enc Tryd.prog W 0 (fun _ => true) true 22 v d p) (hw : ∀ n ∈ d.weights Tryd.prog 22, n ≤ reachBytes) :
    ∃ A l c, v = .slice A l.length c ∧ Rd W A l ∧ l.length ≤ 140737488355328 ∧ ∀ y ∈ l, y.size ≤ 140737488355328 := by
  obtain ⟨a0, len, cap, rfl⟩ := okWide_slice Tryd.underlying22 hv
  obtain ⟨fuel, hf⟩ := h
  have hrb : reachBytes ≤ 140737488355328 := by decide
  rcases open_strs Tryd.underlying22 Tryd.underlying9 cells9 hf with ⟨hcs, hx⟩ | ⟨a, len', cap', m, Sx, hcs, _, hl, hm, hmm, hx, hcell⟩
  · simp [Value.cells] at hcs
    obtain ⟨rfl, rfl, rfl⟩ := hcs
    exact ⟨none, [], 0, rfl, .inl rfl, by simp, by simp⟩
  · simp [Value.cells] at hcs
    obtain ⟨rfl, rfl, rfl⟩ := hcs
    simp only [Prod.mk.injEq] at hx
    obtain ⟨rfl, rfl⟩ := hx
    simp only [if_true] at hmm
    have hmm2 := hmm.symm
    subst hmm2
    obtain ⟨w1, w2⟩ := slice_w Tryd.underlying22 hw
    rw [bytes9] at w1
    refine ⟨some a, (List.range len).map Sx, cap, by simp, ?_, by simp at w1 ⊢; omega, fun y hy => ?_⟩
    · by_cases h0 : len = 0
      · subst h0; exact .inl rfl
      · obtain ⟨b, off, spot⟩ := a
        have hc0 := (hcell 0 (by omega)).1
        have hspot : spot = none := by simpa [Addr.add] using World.cell?_spot hc0
        subst hspot
        refine .inr ⟨b, off, rfl, fun i x hx => ?_⟩
        have hi : i < len := by have := (List.getElem?_eq_some_iff.1 hx).1; simpa using this
        have := (hcell i (by omega)).1
        have he : x = Sx i := by simp [hi] at hx; exact hx.symm
        rw [he, ← this]
        by_cases hz : i = 0
        · subst hz; simp [Addr.add]
        · simp [Addr.add, hz]
    · obtain ⟨i, hi, rfl⟩ := List.mem_map.1 hy
      have := lit_w (w2 _ (List.mem_map.2 ⟨i, hi, rfl⟩))
      omega
end
end Go.Proofs.YtfdcacjfngjmdaaDoor.Laws
