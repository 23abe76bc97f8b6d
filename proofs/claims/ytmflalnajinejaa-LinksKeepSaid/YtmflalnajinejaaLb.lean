import Derived.Deep.DeepCutAuto
import Derived.Laws.OwnMore
import Derived.OwnWalk
import Derived.Lib.AppendStr
import Derived.Lib.SliceRun
import Derived.Lib.SmallJoins
import Derived.IntWalk
import Derived.WalkMore
import Derived.Lib.OthersKept
import Derived.Deep.LoopGhost
import Derived.Deep.RegionLaw
import Derived.Deep.AppendLies
import Derived.Test.YtmflalnajinejaaProg
import Derived.Test.YtmflalnajinejaaMem
import Derived.Test.YtmflalnajinejaaBlk
import Derived.Test.YtmflalnajinejaaAp
import Derived.Test.YtmflalnajinejaaKa
import Derived.Test.YtmflalnajinejaaKc
import Derived.Test.YtmflalnajinejaaKd
import Derived.Test.YtmflalnajinejaaKl
import Derived.Test.YtmflalnajinejaaOwn
import Derived.Test.YtmflalnajinejaaKu
import Derived.Test.YtmflalnajinejaaKv
import Derived.Test.YtmflalnajinejaaKw
import Derived.Test.YtmflalnajinejaaKx
import Derived.Test.YtmflalnajinejaaKy
import Derived.Test.YtmflalnajinejaaLa
import Derived.Test.YtmflalnajinejaaShelf
import Derived.Shelf.SlSortCmp.NoneTotal
import Derived.RangeFuncGives
import Derived.RangeFuncSeq
import Derived.Sort.MapsRangeIn
import Derived.Sort.KeysCollected
import Derived.OwnWalkIn
import Derived.TacticsInMore
import Derived.RegionIn
import Derived.LoopNIn
import Derived.LoopIn
import Derived.Maps.AppendAt
import Derived.Shelf.Abstract
import Derived.WalkKit
import Derived.Outline
import Derived.WalkLawsBesides
import Derived.Deep.QuietTactic
import Derived.BigQuiet
import Derived.Lib.Hide
import Derived.Handy
import Derived.Deep.RegionHeld3
import Derived.Deep.DrawnRows
import Derived.KernelRfl
import Derived.Great.Walk
import Derived.Test.YtmflalnajinejaaOwn
namespace Go.Proofs.Ytmflalnajinejaa.T
open Go Go.RowKit Go.Sort Mem Own
set_option maxRecDepth 100000
set_option maxHeartbeats 1000000
set_option linter.unusedVariables false
set_option linter.unusedSimpArgs false

open Go.WideMaps Go.Maps
open Classical in
theorem nodup_len {α : Type} : ∀ {a b : List α}, a.Nodup → (∀ x ∈ a, x ∈ b) → a.length ≤ b.length
  | [], _, _, _ => Nat.zero_le _
  | x :: a, b, hn, hs => by
    have hx := hs x (by simp)
    have h1 := List.length_erase_of_mem hx
    have h2 := nodup_len (b := b.erase x) (List.nodup_cons.1 hn).2 (fun y hy => (List.mem_erase_of_ne (fun (e : y = x) => (List.nodup_cons.1 hn).1 (by rw [← e]; exact hy))).2 (hs y (by simp [hy])))
    have h3 := List.length_pos_of_mem hx
    simp only [List.length_cons]; omega
theorem sorted_up {ss' : List En} (hn : ss'.Nodup) (hs : ∀ i j (hi : i < ss'.length) (hj : j < ss'.length), i < j → bef ss'[j] ss'[i] = false) : ss'.Pairwise (fun a b => bef a b = true) := by
  rw [List.pairwise_iff_getElem]
  intro i j hi hj hij
  cases h : bef ss'[i] ss'[j] with
  | true => rfl
  | false =>
    have e := bef_tot h (hs i j hi hj hij)
    exact absurd ((List.getElem_inj hn).1 e) (by omega)
/-- slices.SortedFunc of maps.Keys' iterator. -/
theorem sorted_is (Bm b nn : Nat) (D0 : DataW Value) (w : World) (hBm : Bm < w.heap.size) (hm : w.cell? ⟨Bm, 0, none⟩ = some (.map (some b))) (hown : w.ownsMap Try.prog 40 RV b nn D0) (hN : Maps.size D0 ≤ 1000000) :
    Calls Try.prog 28 #[.func (.func 37) #[] #[.pointer (some ⟨Bm, 0, none⟩)], .func (.func 30) #[] #[]] w fun e w' => ∃ A c l, e = .returned (.slice A l.length c) ∧ RdE w' A l ∧ l.Pairwise (fun a b => bef a b = true) ∧ AllE D0 l ∧ Below w.heap.size w w' := by
  have HC := Lib.hid (collect_is Bm b nn D0 w hBm hm hown hN)
  have hlen : ∀ ss, AllE D0 ss → ss.length ≤ 1000000 := by
    intro ss h
    refine Nat.le_trans ?_ hN
    obtain ⟨es, hD, hp, _⟩ := hown.entries K40
    subst hD
    have h2 : (ss.map enK).Nodup := by
      refine List.pairwise_map.2 (h.1.imp_of_mem fun {x y} hx hy hne e => hne ?_)
      exact enK_inj (h.2.1 x hx) (h.2.1 y hy) e
    have h3 : ∀ k ∈ ss.map enK, k ∈ es.map (·.1) := by
      intro k hk
      obtain ⟨x, hx, rfl⟩ := List.mem_map.1 hk
      have := (h.2.2 x (h.2.1 x hx)).1 hx
      rw [has_eq, List.any_eq_true] at this
      obtain ⟨p, hp, hs⟩ := this
      exact List.mem_map.2 ⟨p, hp, (WideAt.sameKey_iff (isKey x)).1 hs⟩
    have := nodup_len h2 h3
    simpa [size_eq] using this
  have HLEN := Lib.hid hlen
  clear hlen
  go_enter Try.func28, Try.ntmps28
  go_wp2_with (first
    | (go_at_call 35; refine Calls.mono HC.out ?_; (rintro e w2 ⟨v, ss, rfl, hA, hrow, hb2⟩; have HA := Lib.hid hA; have HROW := Lib.hid hrow; have HB2 := Lib.hid hb2; clear hA hrow hb2))
    | (go_at_call 36; refine Calls.mono (sfunc_is w.heap.size ss.length v ss w2 HROW.out (HLEN.out _ HA.out)) ?_; (rintro e w3 ⟨rfl, hb3, A, c, ss', hv, hl, hp, hs, hr⟩; have HV := Lib.hid hv; have HB3 := Lib.hid hb3; have HP := Lib.hid hp; have HS := Lib.hid hs; have HR := Lib.hid hr; have HL := Lib.hid hl; clear hv hb3 hp hs hr hl)))
  go_ret
  refine ⟨A, c, ss', by rw [HL.out, ← HV.out]; rfl, HR.out, sorted_up (HP.out.nodup_iff.2 HA.out.1) HS.out, ⟨HP.out.nodup_iff.2 HA.out.1, fun x hx => HA.out.2.1 x (HP.out.mem_iff.1 hx), fun x hx => by rw [HP.out.mem_iff]; exact HA.out.2.2 x hx⟩, HB2.out.trans HB3.out⟩
/-- Pairs -/
theorem pairs_is (g b n : Nat) (Q : En → List Lt) (w : World) (h : LK w g b n Q) (hn : n ≤ 1000000) :
    Calls Try.prog 16 #[.pointer (some ⟨g, 0, none⟩)] w fun e w' => ∃ A c l, e = .returned (.slice A l.length c) ∧ RdE w' A l ∧ l.Pairwise (fun a b => bef a b = true) ∧ (∀ x ∈ l, x.wf) ∧ (∀ x : En, x.wf → (x ∈ l ↔ Q x ≠ [])) ∧ Below w.heap.size w w' := by
  have hc := h.cell
  obtain ⟨_, m, ⟨D, hown, hD⟩, hQ⟩ := h
  have HK := Lib.hid (keys_is (some b) w)
  have hs : (w.alloc (.cells #[.map (some b)] 51)).heap.size = w.heap.size + 1 := alloc_size _ _
  have HB := Lib.hid (show Below w.heap.size w (w.alloc (.cells #[.map (some b)] 51)) from (Below.refl _ _).alloc (Nat.le_refl _) _)
  have HS := Lib.hid (sorted_is w.heap.size b n D (w.alloc (.cells #[.map (some b)] 51)) (by rw [hs]; omega) (cells1 (heap_alloc_new w _)) (hown.alloc _) (Nat.le_trans hown.size_le hn))
  have HQ := Lib.hid (show ∀ x : En, x.wf → (has D (enK x) = true ↔ Q x ≠ []) from fun x hx => by
    rcases hD x hx with ⟨e1, e2⟩ | ⟨v, e1, e2, _⟩
    · rcases (hQ x).2 with ⟨_, e3⟩ | ⟨A, c, e3, _⟩
      · rw [e2, e3]; simp
      · rw [e1] at e3; cases e3
    · rcases (hQ x).2 with ⟨e3, _⟩ | ⟨A, c, _, e3, _⟩
      · rw [e1] at e3; cases e3
      · rw [e2]; simp [e3])
  clear hown hD hQ hs
  go_enter Try.func16, Try.ntmps16
  go_wp2_with (first
    | (go_at_call 29; refine Calls.mono HK.out ?_; rintro e w2 ⟨rfl, rfl⟩)
    | (go_at_call 28; refine Calls.mono HS.out ?_; (rintro e w3 ⟨A, c, l, rfl, hr, hp, ha, hb3⟩; have HR := Lib.hid hr; have HP := Lib.hid hp; have HA := Lib.hid ha; have HB3 := Lib.hid (HB.out.trans (hb3.mono HB.out.size)); clear hr hp ha hb3)))
  go_ret
  exact ⟨A, c, l, rfl, HR.out, HP.out, HA.out.2.1, fun x hx => by rw [HA.out.2.2 x hx]; exact HQ.out x hx, HB3.out⟩
end Go.Proofs.Ytmflalnajinejaa.T
