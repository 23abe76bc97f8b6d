import Derived.Test.YtojnhgeffnjndaaProg
import Derived.Test.YtojnhgeffnjndaaShelf
import Derived.Test.YtojnhgeffnjndaaSr
import Derived.Test.YtojnhgeffnjndaaZr
import Derived.WalkKit
import Derived.Outline
import Derived.WalkLawsBesides
import Derived.Deep.QuietTactic
import Derived.BigQuiet
import Derived.Lib.Hide
import Derived.Handy
import Derived.Deep.RegionHeld3
import Derived.Deep.DrawnRows
import Derived.Shelf.Spec.SlicesInsertGrow
import Derived.Sort.OwnSorted
import Derived.Laws.AppendOwnNone
namespace Go.Proofs.Ytojnhgeffnjndaa.T
open Go Go.RowKit Mem Own Go.Great Go.Sort Go.Lib
set_option maxRecDepth 100000
set_option maxHeartbeats 8000000
set_option linter.unusedVariables false
set_option linter.unusedSimpArgs false



/-- A row of n places that may be written into. -/
def Wr (B : Nat) (w : World) (D : Option Addr) (n : Nat) : Prop := n = 0 ∨ ∃ g, D = some ⟨g, 0, none⟩ ∧ B ≤ g ∧ (∀ j, j < n → ∃ v, w.cell? ⟨g, j, none⟩ = some v) ∧ ∀ j, w.frozen? ⟨g, j, none⟩ = false
theorem wr_rd {B : Nat} {w : World} {D : Option Addr} {l : List ByteArray} (h : Rd w D l) (ho : OwnD D B w) : Wr B w D l.length := by
  obtain ⟨g, rfl, hB, hf⟩ := ho
  refine .inr ⟨g, rfl, hB, fun j hj => ?_, hf⟩
  have := h.cell hj
  rw [Nat.zero_add] at this
  exact ⟨_, this⟩
theorem wr_own {B n c : Nat} {w : World} {C : Option Addr} {xs : List Value} (h : w.ownsRow B 9 1 (.slice C n c) n xs) : Wr B w C n := by
  by_cases h0 : n = 0
  · exact .inl h0
  · obtain ⟨g, rfl⟩ := own_addr h (by omega)
    refine .inr ⟨g, rfl, (h.lt g rfl).1, fun j hj => ?_, fun j => h.frozenAt j⟩
    rw [h.cellAt j (by omega)]
    have hl := h.1
    exact ⟨_, List.getElem?_eq_getElem (by omega)⟩
theorem Wr.below {B n : Nat} {w w' : World} {D : Option Addr} (h : Wr B w D n) (hb : Below w.heap.size w w') : Wr B w' D n := by
  by_cases h0 : n = 0
  · exact .inl h0
  rcases h with h | ⟨g, rfl, hB, hc, hf⟩
  · exact absurd h h0
  · obtain ⟨v, hv⟩ := hc 0 (by omega)
    have hg : g < w.heap.size := lt_of_cell hv
    exact .inr ⟨g, rfl, hB, fun j hj => by obtain ⟨v, hv⟩ := hc j hj; exact ⟨v, cell_below hb hv⟩, fun j => by rw [hb.frozen (p := ⟨g, j, none⟩) hg]; exact hf j⟩
theorem Wr.set {B n : Nat} {w : World} {D : Option Addr} (h : Wr B w D n) (p : Addr) (x : Value) : Wr B (w.setCell p x) D n := by
  rcases h with h | ⟨g, rfl, hB, hc, hf⟩
  · exact .inl h
  · exact .inr ⟨g, rfl, hB, fun j hj => by obtain ⟨v, hv⟩ := hc j hj; exact cell?_setCell_some hv, fun j => by rw [World.frozen?_setCell]; exact hf j⟩
theorem Wr.mono {B B' n : Nat} {w : World} {D : Option Addr} (h : Wr B w D n) (hb : B' ≤ B) : Wr B' w D n := by
  rcases h with h | ⟨g, rfl, hB, hc⟩
  · exact .inl h
  · exact .inr ⟨g, rfl, Nat.le_trans hb hB, hc⟩
theorem without_own (A : Option Addr) (l : List ByteArray) (s : ByteArray) (c : Nat) (w : World) (ha : Rd w A l) (hs : Srt l) (hn : l.length < 2 ^ 29) :
    Calls Try.prog 27 #[.slice A l.length c, .string s] w fun e w' => ∃ n C k, e = .returned (.slice C n k) ∧ RowKit.Hid (Wr w.heap.size w' C n) ∧ n ≤ l.length + 1 ∧ RowKit.Hid (Below w.heap.size w w') := by
  have HA := Lib.hid ha
  by_cases hm : s ∈ l
  · have HS := Lib.hid (search_yes A l c s w ha hs (by omega) hm)
    clear ha hs hm
    go_enter Try.func27, Try.ntmps27
    go_wp2_with (first
      | (go_at_call 37; refine HS.out.mono ?_; rintro e w1 ⟨k, rfl, hk, hks, hb1⟩; have HK := Lib.hid hks; have HB1 := Lib.hid hb1; clear hks hb1)
      | (go_at_call 29; refine (clone_is A l c w1 (HA.out.below HB1.out) (by omega)).mono ?_; rintro e w2 ⟨C, c2, rfl, hown, hb2⟩; have HB2 := Lib.hid hb2; clear hb2; obtain ⟨g, rfl⟩ := own_addr hown.out (by omega))
      | (go_at_call 39; refine (delete_is _ g c2 k l w2 hown.out hk).mono ?_; rintro e w3 ⟨rfl, hrd, hfz, hb3⟩; have HRD := Lib.hid hrd; have HF := Lib.hid hfz; have HB3 := Lib.hid hb3; clear hrd hb3 hfz))
    go_ret
    have hg := (hown.out.lt g rfl).1
    have hl : (l.take k ++ l.drop (k + 1)).length = l.length - 1 := by simp; omega
    refine ⟨l.length - 1, _, c2, rfl, Lib.hid ?_, by omega, Lib.hid (HB1.out.trans (HB2.out.mono HB1.out.size |>.trans (HB3.out.mono (Nat.le_trans HB1.out.size hg))))⟩
    rw [← hl]
    exact wr_rd HRD.out ⟨g, rfl, Nat.le_trans HB1.out.size hg, HF.out⟩
  · have HS := Lib.hid (search_no A l c s w ha hs (by omega) hm)
    clear ha hs hm
    go_enter Try.func27, Try.ntmps27
    go_wp2_with (first
      | (go_at_call 37; refine HS.out.mono ?_; rintro e w1 ⟨k, rfl, hk, _, _, hb1⟩; have HB1 := Lib.hid hb1; clear hb1)
      | (go_at_call 29; refine (clone_is A l c w1 (HA.out.below HB1.out) (by omega)).mono ?_; rintro e w2 ⟨C, c2, rfl, hown, hb2⟩; have HB2 := Lib.hid hb2; clear hb2))
    go_ret
    exact ⟨_, C, c2, rfl, Lib.hid ((wr_own hown.out).mono HB1.out.size), by omega, Lib.hid (HB1.out.trans (HB2.out.mono HB1.out.size))⟩
theorem with_own (A : Option Addr) (l : List ByteArray) (s : ByteArray) (c : Nat) (w : World) (ha : Rd w A l) (hs : Srt l) (hn : l.length < 2 ^ 29) :
    Calls Try.prog 25 #[.slice A l.length c, .string s] w fun e w' => ∃ n C k, e = .returned (.slice C n k) ∧ RowKit.Hid (Wr w.heap.size w' C n) ∧ n ≤ l.length + 1 ∧ RowKit.Hid (Below w.heap.size w w') := by
  have HA := Lib.hid ha
  by_cases hm : s ∈ l
  · have HS := Lib.hid (search_yes A l c s w ha hs (by omega) hm)
    clear ha hs hm
    go_enter Try.func25, Try.ntmps25
    go_wp2_with (first
      | (go_at_call 37; refine HS.out.mono ?_; rintro e w1 ⟨k, rfl, hk, hks, hb1⟩; have HB1 := Lib.hid hb1; clear hks hb1)
      | (go_at_call 29; refine (clone_is A l c w1 (HA.out.below HB1.out) (by omega)).mono ?_; rintro e w2 ⟨C, c2, rfl, hown, hb2⟩; have HB2 := Lib.hid hb2; clear hb2))
    go_ret
    exact ⟨_, C, c2, rfl, Lib.hid ((wr_own hown.out).mono HB1.out.size), by omega, Lib.hid (HB1.out.trans (HB2.out.mono HB1.out.size))⟩
  · have HS := Lib.hid (search_no A l c s w ha hs (by omega) hm)
    clear ha hs hm
    go_enter Try.func25, Try.ntmps25
    go_wp2_with (first
      | (go_at_call 37; refine HS.out.mono ?_; rintro e w1 ⟨k, rfl, hk, h1, h2, hb1⟩; have HB1 := Lib.hid hb1; clear hb1 h1 h2)
      | (go_at_call 29; refine (clone_is A l c w1 (HA.out.below HB1.out) (by omega)).mono ?_; rintro e w2 ⟨C, c2, rfl, hown, hb2⟩; have HB2 := Lib.hid hb2; clear hb2)
      | (go_at_call 38; refine (insert_isO C c2 k l s w1.heap.size w2 hown.out (by omega) hk HB2.out.size).mono ?_; rintro e w3 ⟨D, c3, rfl, hrd, hb3, hod⟩; have HRD := Lib.hid hrd; have HB3 := Lib.hid hb3; have HOD := Lib.hid hod; clear hrd hb3 hod))
    go_ret
    have hl : (l.take k ++ s :: l.drop k).length = l.length + 1 := by simp; omega
    refine ⟨_, D, c3, rfl, Lib.hid ?_, Nat.le_refl _, Lib.hid (HB1.out.trans ((HB2.out.mono HB1.out.size).trans (HB3.out.mono HB1.out.size)))⟩
    rw [← hl]
    exact wr_rd HRD.out (HOD.out.mono HB1.out.size)
theorem newsS {w : World} {a : Addr} {l : List ByteArray} (ha : Rd w (some a) l) : ∀ j u, (vs l)[j]? = some u → w.cell? (a.add j) = some u := by
  intro j u hu
  rcases ha with rfl | ⟨b, off, e, hc⟩
  · simp [vs] at hu
  · cases e
    rw [vs, List.getElem?_map] at hu
    obtain ⟨z, hz, rfl⟩ := Option.map_eq_some_iff.1 hu
    have hadd : (⟨b, off, none⟩ : Addr).add j = ⟨b, off + j, none⟩ := by
      by_cases h : j = 0
      · subst h; simp [Addr.add]
      · simp [Addr.add, h]
    rw [hadd]
    exact hc j z hz
theorem app_txt {w3 wa : World} {AM : Option Addr} {l : List ByteArray} {cm b : Nat} (hb : w3.heap.size ≤ b) (hL : wa.ownsRow w3.heap.size 9 1 (.slice (some ⟨b, 0, none⟩) 0 0) 0 []) (hz : Rd wa AM l) (h3 : Below w3.heap.size w3 wa) (hzn : l.length ≤ 2 ^ 30) :
    ∃ v' w', (Builtin.append_ #[22, 22] 22 #[.slice (some ⟨b, 0, none⟩) 0 0, .slice AM l.length cm]).run Try.prog wa = .ok v' w' ∧ (∃ C k, v' = .slice C l.length k ∧ Rd w' C l ∧ Below w3.heap.size w3 w') := by
  obtain ⟨i0, hi, hz0, hz1, hz2⟩ := info_parts info9
  cases AM with
  | none =>
    have hl : l = [] := by rcases hz with h | ⟨b, off, h, _⟩; exact h; cases h
    subst hl
    refine ⟨.slice (some ⟨b, 0, none⟩) 0 0, wa, ?_, some ⟨b, 0, none⟩, 0, rfl, .inl rfl, h3⟩
    simp [Builtin.append_, run_underlying Try.underlying22, sizeOf, typeInfo, hi, Builtin.lenOf, Builtin.firstCells, loadCells, loadCellsFrom, storeCells]
  | some a =>
    obtain ⟨v', w', h1, h2, h4, -⟩ := run_append_own (P := Try.prog) wa w3.heap.size 22 22 9 i0 _ 1 16 Try.underlying22 hi hz0 hz1 hz2 rfl (by decide) _ 0 [] hL a l.length cm (vs l) (by simp [vs]) (newsS hz) (by intro u hu; simp only [vs, List.mem_map] at hu; obtain ⟨z, _, rfl⟩ := hu; rfl) (by unfold maxLen; omega) (by omega) h3.size
    have hO : w'.ownsRow w3.heap.size 9 1 v' l.length (vs l) := by simpa using h2
    obtain ⟨C, k, rfl⟩ := own_slice hO
    refine ⟨_, w', h1, C, k, rfl, (own_rd hO).1, h3.grown h4 h3.size (fun k hk => ?_)⟩
    simp [Value.ownBlock] at hk
    omega
theorem setsKeep_is (A : Option Addr) (la : List ByteArray) (s t : ByteArray) (ca : Nat) (w : World) (ha : Rd w A la) :
    Calls Try.prog 8 #[.slice A la.length ca, .string s, .string t] w fun e w' => e = .returned (.bool true) ∧ Below w.heap.size w w' := by
  have HA := Lib.hid ha
  clear ha
  by_cases h1 : la.length ≤ 1000 ∧ 0 ≤ 1000
  · go_enter Try.func8, Try.ntmps8
    go_wp2_with (first
      | (go_at_call 10; (with_reducible refine (few_yes A none la.length 0 ca 0 h1 _).mono ?_); rintro e wf ⟨rfl, rfl⟩)
      | (go_at_call 16; (with_reducible refine Calls.mono (rmake_is A la ca _ HA.out ?_) ?_); (focus omega); rintro e w1 ⟨ma, A1, a1, rfl, hma, hra, hna, hb1⟩; have HB1 := Lib.hid hb1; have La := hma.out.2.2; have SA := Lib.hid hma.out.1; have HL1 := Lib.hid (World.ownsRow_lit (e := 9) (size := 1) w1 #[] 0 (Nat.le_refl _) (by decide) rfl); clear hb1)
      | (at_builtin; refine wpList_append_ex rfl (.tmp 19) (.tmp 20) 22 22 rfl (.slice (some ⟨w1.heap.size, 0, none⟩) 0 0) (.slice A1 ma.length a1) rfl rfl _ (app_txt (w3 := w1) (Nat.le_refl _) HL1.out (hra.out.below ((Below.refl _ _).alloc (Nat.le_refl _) _)) ((Below.refl _ _).alloc (Nat.le_refl _) _) (by omega)) ?_; rintro v2 w2 ⟨C2, c2, rfl, h2, hb2⟩; have HR2 := Lib.hid h2; have HB2 := Lib.hid hb2; clear h2 hb2; have HA2 := Lib.hid (hra.out.below HB2.out))
      | (go_at_call 25; (with_reducible refine Calls.mono (with_own A1 ma s a1 _ HA2.out SA.out ?_) ?_); (focus omega); rintro e w3 ⟨n3, D3, k3, rfl, HW3, hn3, HB3⟩; have HA3 := Lib.hid (HA2.out.below HB3.out))
      | (go_at_call 27; (with_reducible refine Calls.mono (without_own A1 ma t a1 _ HA3.out SA.out ?_) ?_); (focus omega); rintro e w4 ⟨n4, D4, k4, rfl, HW4, hn4, HB4⟩))
    have HB24 := Lib.hid (HB3.out.trans (HB4.out.mono HB3.out.size))
    have HW34 := Lib.hid (HW3.out.below HB4.out)
    have HW44 := Lib.hid (HW4.out.mono HB3.out.size)
    go_loopw [30] (fun s30 wr => ∃ i : Nat, i ≤ n3 ∧ s30 = .int .i64 i ∧ RowKit.Hid (Below w2.heap.size w2 wr) ∧ RowKit.Hid (Wr w2.heap.size wr D3 n3) ∧ RowKit.Hid (Wr w2.heap.size wr D4 n4)) (fun s30 _ => n3 - (intOf s30).toNat)
    case atStart => exact ⟨0, Nat.zero_le _, rfl, HB24, HW34, HW44⟩
    case round =>
      obtain ⟨i, hi3, rfl, HBr, HX3, HX4⟩ := hrel
      by_cases hlt : i < n3
      · obtain ⟨g, rfl, hgB, hc, hf⟩ : ∃ g, D3 = some ⟨g, 0, none⟩ ∧ w2.heap.size ≤ g ∧ (∃ v, wr.cell? ⟨g, i, none⟩ = some v) ∧ wr.frozen? ⟨g, i, none⟩ = false := by
          rcases HX3.out with h | ⟨g, h1, h2, h3, h4⟩
          · omega
          · exact ⟨g, h1, h2, h3 i hlt, h4 i⟩
        obtain ⟨v, hc⟩ := hc
        go_wp2
        exact ⟨⟨i + 1, by omega, by go_num, Lib.hid (HBr.out.setCell hgB _), Lib.hid (HX3.out.set _ _), Lib.hid (HX4.out.set _ _)⟩, by simp [intOf]; omega⟩
      · go_wp2_with fail
        go_loopw [39] (fun s39 wr => ∃ i : Nat, i ≤ n4 ∧ s39 = .int .i64 i ∧ RowKit.Hid (Below w2.heap.size w2 wr) ∧ RowKit.Hid (Wr w2.heap.size wr D4 n4)) (fun s39 _ => n4 - (intOf s39).toNat)
        case atStart => exact ⟨0, Nat.zero_le _, rfl, HBr, HX4⟩
        case round =>
          obtain ⟨i, hi4, rfl, HBr, HX4⟩ := hrel
          by_cases hlt : i < n4
          · obtain ⟨g, rfl, hgB, hc, hf⟩ : ∃ g, D4 = some ⟨g, 0, none⟩ ∧ w2.heap.size ≤ g ∧ (∃ v, wr.cell? ⟨g, i, none⟩ = some v) ∧ wr.frozen? ⟨g, i, none⟩ = false := by
              rcases HX4.out with h | ⟨g, h1, h2, h3, h4⟩
              · omega
              · exact ⟨g, h1, h2, h3 i hlt, h4 i⟩
            obtain ⟨v, hc⟩ := hc
            go_wp2
            exact ⟨⟨i + 1, by omega, by go_num, Lib.hid (HBr.out.setCell hgB _), Lib.hid (HX4.out.set _ _)⟩, by simp [intOf]; omega⟩
          · go_wp2_with (first
              | (go_at_call 11; (with_reducible refine (alive_is _).mono ?_); rintro e w7 ⟨rfl, hb7⟩; have HB7 := Lib.hid (HBr.out.trans (hb7.mono HBr.out.size)); clear hb7)
              | (go_at_call 15; (with_reducible refine Calls.mono (same_eq A1 C2 ma a1 c2 _ (HA2.out.below HB7.out) (HR2.out.below HB7.out) ?_) ?_); (focus omega); rintro e w8 ⟨rfl, hb8⟩; have HB8 := Lib.hid (HB7.out.trans (hb8.mono HB7.out.size)); clear hb8))
            go_ret
            exact ⟨rfl, HB1.out.trans ((HB2.out.trans (HB8.out.mono HB2.out.size)).mono HB1.out.size)⟩
  · go_enter Try.func8, Try.ntmps8
    go_wp2_with (first
      | (go_at_call 10; (with_reducible refine (few_no A none la.length 0 ca 0 h1 _).mono ?_); rintro e wf ⟨rfl, rfl⟩)
      | (go_at_call 11; (with_reducible refine (alive_is _).mono ?_); rintro e w1 ⟨rfl, hb1⟩))
    go_ret
    exact ⟨rfl, by assumption⟩
end Go.Proofs.Ytojnhgeffnjndaa.T
