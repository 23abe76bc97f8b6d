import Derived.Deep.DeepCutAuto
import Derived.Test.YtgakeclocbfnpaaDoorProg
import Derived.Test.YtgakeclocbfnpaaDoorShelf
import Derived.Test.YtgakeclocbfnpaaDoorMem
import Derived.Test.YtgakeclocbfnpaaDoorTa
import Derived.Test.YtgakeclocbfnpaaDoorTa2
import Derived.Test.YtgakeclocbfnpaaDoorTb
import Derived.Test.YtgakeclocbfnpaaDoorTc
import Derived.Test.YtgakeclocbfnpaaDoorTd
import Derived.Test.YtgakeclocbfnpaaDoorTe
import Derived.Test.YtgakeclocbfnpaaDoorTf
import Derived.Test.YtgakeclocbfnpaaDoorTg
import Derived.Test.YtgakeclocbfnpaaDoorTh
import Derived.Test.YtgakeclocbfnpaaDoorTi
import Derived.Test.YtgakeclocbfnpaaDoorTja
import Derived.Test.YtgakeclocbfnpaaDoorTj
import Derived.Test.YtgakeclocbfnpaaDoorTka
import Derived.Test.YtgakeclocbfnpaaDoorTkb
import Derived.Test.YtgakeclocbfnpaaDoorTk
import Derived.Test.YtgakeclocbfnpaaDoorTl
import Derived.Test.YtgakeclocbfnpaaDoorTm
import Derived.Test.YtgakeclocbfnpaaDoorTn
import Derived.Test.YtgakeclocbfnpaaDoorTo
import Derived.Test.YtgakeclocbfnpaaDoorTp
import Derived.Test.YtgakeclocbfnpaaDoorTq
import Derived.Test.YtgakeclocbfnpaaDoorTr
import Derived.WalkKit
import Derived.Outline
import Derived.WalkLawsBesides
import Derived.Deep.QuietTactic
import Derived.BigQuiet
import Derived.Lib.Hide
import Derived.Handy
import Derived.Deep.RegionHeld3
import Derived.Deep.DrawnRows
import Derived.KernelRfl
import Derived.Sort.Walk0
import Derived.Great.Walk
import Derived.Test.YtgakeclocbfnpaaDoorOwn
namespace Go.Proofs.YtgakeclocbfnpaaDoor.T
open Go Go.RowKit Mem Own
set_option maxRecDepth 100000
set_option maxHeartbeats 1000000
set_option linter.unusedVariables false
set_option linter.unusedSimpArgs false

theorem keys_sub (l : List ByteArray) : ∀ j, (keyUpTo l (1 + j)).Sublist ((l.drop 1).take j)
  | 0 => by rw [keyUpTo_one]; exact List.nil_sublist _
  | j + 1 => by
    have ih := keys_sub l j
    rw [← Nat.add_assoc, List.take_add_one]
    conv => lhs; unfold keyUpTo
    refine ih.append ?_
    rw [List.getElem?_drop]
    split
    · exact List.Sublist.refl _
    · exact List.nil_sublist _
theorem keysOf_sub (l : List ByteArray) (h : 1 ≤ l.length) : (keysOf l).Sublist (l.drop 1) := by
  have := keys_sub l (l.length - 1)
  rw [show 1 + (l.length - 1) = l.length by omega] at this
  exact this.trans (List.take_sublist _ _)
theorem keyUpTo_mono (l : List ByteArray) (k : Nat) : ∀ d, (keyUpTo l k).length ≤ (keyUpTo l (k + d)).length
  | 0 => Nat.le_refl _
  | d + 1 => by
    have := keyUpTo_mono l k d
    rw [← Nat.add_assoc]
    conv => rhs; unfold keyUpTo
    rw [List.length_append]; omega
theorem keys_some {l : List ByteArray} (h : (chk l).2 = 0) (hw : (chk l).1.writes = true) : 0 < (keysOf l).length := by
  obtain ⟨x, r, e, e1, hfit, _⟩ := chk_is h
  have hok := fsp_ok x
  have hf : (chk l).1.first ≠ 0 := by
    rw [e1] at hw ⊢
    intro h0
    have := (hok.non h0).2.2
    rw [hw] at this; cases this
  obtain ⟨N, st, hctx, h1, h2⟩ := ctx_of h hf
  rw [e1] at h1 h2
  have hN : 1 ≤ N := by
    by_cases hl : (fsp x).last < 0
    · have := (hok.all hl).1
      have := hfit.1
      have := h1 hl
      rw [e, List.length_cons] at this
      omega
    · have := (h2 (by omega)).1; omega
  have hs := hctx.step (Nat.le_refl 1) hN (by simp)
  have hd := hctx.done (k := 1 + st + N) (by have := hctx.s1; omega)
  rw [← hd]
  have := keyUpTo_mono l (1 + st) N
  rw [hs, List.length_append] at this
  simp at this
  omega
theorem sub_step {x y : ByteArray} {ks ys : List ByteArray} (h : (x :: ks).Sublist (y :: ys)) (hn : y ≠ x) : (x :: ks).Sublist ys := by
  cases h with
  | cons _ h => exact h
  | cons_cons _ h => exact absurd rfl hn
theorem sub_hit {x : ByteArray} {ks ys : List ByteArray} (h : (x :: ks).Sublist (x :: ys)) : ks.Sublist ys := by
  cases h with
  | cons _ h => exact (List.sublist_cons_self _ _).trans h
  | cons_cons _ h => exact h

/-- TableStands -/
theorem tableStands_is (A : Option Addr) (l : List ByteArray) (c : Nat) (w : World) (ha : Rd w A l) (hn : l.length ≤ maxLen) (hz : ∀ x ∈ l, x.size ≤ maxLen) (hT : U8 w) :
    Calls Tryd.prog 8 #[.slice A l.length c] w fun e w' => e = .returned (.bool true) ∧ Below w.heap.size w w' := by
  unfold maxLen at hn
  have HT := Lib.hid hT
  have HA := Lib.hid ha; have HZ := Lib.hid hz
  clear hT ha hz
  by_cases h200 : 200 < l.length
  · go_enter Tryd.func8, Tryd.ntmps8
    go_wp2_with (go_at_call 11; refine Calls.mono (alive_is _ HT.out) ?_; rintro e w3 ⟨rfl, hb3⟩)
    go_ret
    exact ⟨rfl, hb3⟩
  · have hn200 : l.length ≤ 200 := by omega
    have hkl := keyUpTo_len l l.length
    obtain ⟨K, hK⟩ : ∃ K, K = keysOf l := ⟨_, rfl⟩
    have hKl : K.length ≤ 200 := by rw [hK]; unfold keysOf; omega
    have HK := Lib.hid hK
    clear hK hkl
    have HS0 : RowKit.Hid (K.Sublist (l.drop 1)) := Lib.hid (by
      rw [HK.out]
      cases l with
      | nil => exact List.nil_sublist _
      | cons x r => exact keysOf_sub _ (by simp))
    go_enter Tryd.func8, Tryd.ntmps8
    go_upto_region 4 with fail
    go_cut [4] (fun s4 wx => ∃ C k, s4 = .slice C K.length k ∧ RowKit.Hid (Rd wx C K) ∧ RowKit.Hid (Below w.heap.size w wx))
    case first =>
      go_wp2_with (go_at_call 17; refine (keys_is A l c _ HA.out hn200 HZ.out HT.out).mono ?_; rintro e w2 ⟨C, k, rfl, hr, hb2⟩; rw [← HK.out] at hr ⊢)
      go_meet
      exact ⟨C, k, rfl, hr, Lib.hid hb2⟩
    case rest =>
      obtain ⟨C, kc, rfl, HR, HB⟩ := hcut
      go_wp2_with fail
      go_loop [3, 17] (fun s3 s17 => ∃ a i : Nat, i ≤ K.length ∧ s17 = .int .i64 i ∧ s3 = .int .i64 a ∧ 1 ≤ a ∧ a ≤ l.length + 1 ∧ RowKit.Hid ((K.drop i).Sublist (l.drop a))) (fun _ s17 => K.length - (intOf s17).toNat)
      case atStart => exact ⟨1, 0, Nat.zero_le _, rfl, rfl, by omega, by omega, HS0⟩
      case round =>
        obtain ⟨a, i, hi, rfl, rfl, ha1, ha2, HS⟩ := hrel
        by_cases hlt : i < K.length
        · obtain ⟨bk, ok, rfl⟩ := HR.out.addr (by omega)
          have hk0 := HR.out.cell hlt
          obtain ⟨x, hx⟩ : ∃ x, x = K[i] := ⟨_, rfl⟩
          rw [← hx] at hk0
          have HX : RowKit.Hid (K.drop i = x :: K.drop (i + 1)) := Lib.hid (by rw [hx]; exact List.drop_eq_getElem_cons hlt)
          have HS1 : RowKit.Hid ((x :: K.drop (i + 1)).Sublist (l.drop a)) := Lib.hid (by rw [← HX.out]; exact HS.out)
          clear hx
          go_wp2_with fail
          go_loop [3] (fun s3 => ∃ a' : Nat, s3 = .int .i64 a' ∧ 1 ≤ a' ∧ a' ≤ l.length ∧ RowKit.Hid ((x :: K.drop (i + 1)).Sublist (l.drop a'))) (fun s3 => l.length - (intOf s3).toNat)
          case atStart =>
            have := HS1.out.length_le
            simp at this
            exact ⟨a, rfl, ha1, by omega, HS1⟩
          case round =>
            obtain ⟨a', rfl, hb1, hb2, HS2⟩ := hrel
            have hal : a' < l.length := by
              have := HS2.out.length_le
              simp at this
              omega
            obtain ⟨ba, oa, rfl⟩ := HA.out.addr (by omega)
            have hl0 := cell_below HB.out (HA.out.cell hal)
            obtain ⟨y, hy⟩ : ∃ y, y = l[a'] := ⟨_, rfl⟩
            rw [← hy] at hl0
            have HY : RowKit.Hid (l.drop a' = y :: l.drop (a' + 1)) := Lib.hid (by rw [hy]; exact List.drop_eq_getElem_cons hal)
            clear hy
            by_cases hxy : y = x
            · have e2 : (!y.toList == x.toList) = false := by simp [hxy]
              have HE := Lib.hid hxy
              clear hxy
              go_wp2
              refine ⟨⟨a' + 1, i + 1, by omega, by go_num, by go_num, by omega, by omega, Lib.hid ?_⟩, by simp [intOf]; omega⟩
              have := HS2.out
              rw [HY.out, HE.out] at this
              exact sub_hit this
            · have e2 : (!y.toList == x.toList) = true := by simp; exact fun h => hxy (ba_inj h)
              have HE := Lib.hid hxy
              clear hxy
              go_wp2
              refine ⟨⟨a' + 1, by go_num, by omega, by omega, Lib.hid ?_⟩, by simp [intOf]; omega⟩
              have := HS2.out
              rw [HY.out] at this
              exact sub_step this HE.out
        · obtain ⟨p, hp⟩ : ∃ p, p = (chk l).1 := ⟨_, rfl⟩
          obtain ⟨f, hf⟩ : ∃ f, f = (chk l).2 := ⟨_, rfl⟩
          have HP := Lib.hid hp; have HF := Lib.hid hf
          clear hp hf
          go_upto_region 14 with fail
          go_cut [7, 8] (fun s7 s8 wx => ∃ b7 : Nat, s7 = .pointer (some ⟨b7, 0, none⟩) ∧ s8 = .int .i64 f ∧ RowKit.Hid (wx.heap[b7]? = some (spO p)) ∧ RowKit.Hid (Below w.heap.size w wx))
          case first =>
            go_wp2_with fail
            refine Calls.mono (check_is A l c _ (HA.out.below HB.out) (by omega) HZ.out (HT.out.below HB.out)) ?_
            rintro e w1 ⟨rfl, hb1⟩
            rw [← HP.out, ← HF.out]
            have HB1 := Lib.hid (HB.out.trans (hb1.mono HB.out.size))
            clear hb1
            go_wp2
            go_meet
            exact ⟨_, rfl, rfl, Lib.hid (heap_alloc_new _ _), Lib.hid (HB1.out.alloc HB1.out.size _)⟩
          case rest =>
            obtain ⟨b7, rfl, rfl, H7, HB7⟩ := hcut
            have harm : ∀ w3, Below wc.heap.size wc w3 → w3.cell? ⟨b7, 6, none⟩ = some (.bool p.writes) := fun w3 h => (facts7 (keep_block h H7.out)).2.2.2.2.2.2
            have HARM := Lib.hid harm
            clear harm
            by_cases hf0 : f = 0
            · have m1 : (f != 0) = false := by simp [hf0]
              cases hw : p.writes
              · rw [hw] at HARM
                clear hw
                clear hf0
                go_wp2_with (go_at_call 11; refine Calls.mono (alive_is _ (HT.out.below HB7.out)) ?_; rintro e w3 ⟨rfl, hb3⟩; have h6 := HARM.out _ hb3)
                go_ret
                exact ⟨rfl, HB7.out.trans (hb3.mono HB7.out.size)⟩
              · have hK0 : 0 < K.length := by rw [HK.out]; exact keys_some (by rw [← HF.out]; exact hf0) (by rw [← HP.out]; exact hw)
                have hK1 : 0 < (K.length : Int) := by omega
                rw [hw] at HARM
                clear hw
                clear hf0
                go_wp2_with (go_at_call 11; refine Calls.mono (alive_is _ (HT.out.below HB7.out)) ?_; rintro e w3 ⟨rfl, hb3⟩; have h6 := HARM.out _ hb3)
                go_ret
                exact ⟨rfl, HB7.out.trans (hb3.mono HB7.out.size)⟩
            · have m1 : (f != 0) = true := by simp [hf0]
              clear hf0
              go_wp2_with (go_at_call 11; refine Calls.mono (alive_is _ (HT.out.below HB7.out)) ?_; rintro e w3 ⟨rfl, hb3⟩)
              go_ret
              exact ⟨rfl, HB7.out.trans (hb3.mono HB7.out.size)⟩
end Go.Proofs.YtgakeclocbfnpaaDoor.T
