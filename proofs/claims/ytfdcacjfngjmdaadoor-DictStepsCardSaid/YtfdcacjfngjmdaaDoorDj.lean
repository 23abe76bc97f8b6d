import Derived.Deep.DeepCutAuto
import Derived.Laws.OwnMore
import Derived.OwnWalk
import Derived.Lib.AppendStr
import Derived.Lib.SliceRun
import Derived.Lib.SmallJoins
import Derived.IntWalk
import Derived.WalkMore
import Derived.Lib.OthersKept
import Derived.Deep.LoopGhost
import Derived.Deep.RegionLaw
import Derived.Deep.AppendLies
import Derived.Test.YtfdcacjfngjmdaaDoorProg
import Derived.Test.YtfdcacjfngjmdaaDoorMem
import Derived.Test.YtfdcacjfngjmdaaDoorBlk
import Derived.Test.YtfdcacjfngjmdaaDoorAp
import Derived.Test.YtfdcacjfngjmdaaDoorDi
import Derived.WalkKit
import Derived.Outline
import Derived.WalkLawsBesides
import Derived.Deep.QuietTactic
import Derived.BigQuiet
import Derived.Lib.Hide
import Derived.Handy
import Derived.Deep.RegionHeld3
import Derived.Deep.DrawnRows
import Derived.KernelRfl
import Derived.Great.Walk
import Derived.Test.YtfdcacjfngjmdaaDoorOwn
namespace Go.Proofs.YtfdcacjfngjmdaaDoor.T
open Go Go.RowKit Go.Sort Mem Own
set_option maxRecDepth 100000
set_option maxHeartbeats 1000000
set_option linter.unusedVariables false
set_option linter.unusedSimpArgs false

/-- Is the name there, as find sees it? -/
def Dm.has (m : Dm) (t : ByteArray) : Bool := decide (0 ≤ ixI (rm m.now t) t) || (decide (0 < m.old.length) && decide (0 ≤ ixI (rm m.old t) t))
/-- Put behind the step. -/
def Dm.put (m : Dm) (t : ByteArray) (v : Value) : Dm :=
  if m.has t then m.upd t v
  else
    if m.old.length = 0 ∧ m.now.length < m.many + 1 then { now := List.replicate (2 * m.now.length) [], old := addR m.now (t, v), next := m.next, many := m.many + 1 }
    else { m with now := addR m.now (t, v), many := m.many + 1 }
theorem found_has {m : Dm} {t : ByteArray} {gn go b k : Nat} {i : Int} (hf : Found m t gn go b k i) : m.has t = decide (0 ≤ i) := by
  unfold Dm.has
  rcases hf with ⟨-, -, rfl, h⟩ | ⟨-, -, rfl, h1, h2⟩
  · by_cases h0 : 0 ≤ ixI (rm m.now t) t
    · simp [h0]
    · have : m.old.length = 0 := by omega
      simp [h0, this]
  · have : ¬ 0 ≤ ixI (rm m.now t) t := by omega
    simp [this, h1]
/-- dict.Put, its way where the name is there. -/
theorem putS_is (B g gn go K : Nat) (ow : Ow) (m : Dm) (nv ov : List Value) (t : ByteArray) (v : ByteArray) (w : World) (h : DR w B 64 70 69 g ow m gn go nv ov) (hi : Inv K m) (hs : Inv K m.step) (hK : K ≤ 1000000000) (ht : t.size ≤ 9223372036854775807) (hh : Hv w) (hB0 : 0 < B) :
    Calls Tryd.prog 11 #[.pointer (some ⟨g, 0, none⟩), .string t, (.string v)] w fun e w' => e = .returned (.bool (m.step.has t)) ∧ ∃ ow' gn' go' nv' ov', DR w' B 64 70 69 g ow' (m.step.put t (.string v)) gn' go' nv' ov' ∧ Chg B g ow ow' w w' := by
  have hBw : B ≤ w.heap.size := by have h1 := h.base; have h2 := lt_of_blk h.blk; omega
  have HS := Lib.hid (stepS_is B g gn go K ow m nv ov w h hi hK hh hB0)
  generalize m.step = s at HS hs ⊢
  have HF := Lib.hid (fun (ow1 : Ow) (nv1 ov1 : List Value) (wx : World) (hd : DR wx B 64 70 69 g ow1 s gn go nv1 ov1) (hv : Hv wx) => findS_is B g gn go K ow1 s nv1 ov1 t wx hd hs hK ht hv)
  have HI := Lib.hid hs
  have HH := Lib.hid hh
  obtain ⟨N, hN⟩ : ∃ N, N = s.now.length := ⟨_, rfl⟩
  have hn4 : 4 ≤ N := by rw [hN]; exact hs.n4
  have hnK : N ≤ 3000000000 := by have := hs.nK; omega
  obtain ⟨k1, hk1⟩ : ∃ k, k = hsh t % N := ⟨_, rfl⟩
  have hkN : k1 < N := by rw [hk1]; exact Nat.mod_lt _ (by omega)
  have HRM := Lib.hid (fun (wx : World) (hv : Hv wx) => (by rw [hk1]; exact room_is t N wx ht (by omega) (by omega) hv : Calls Tryd.prog 32 #[.string t, .int .i64 (N : Int)] wx fun e w' => e = .returned (.int .i64 (k1 : Int)) ∧ Below wx.heap.size wx w'))
  have HN := Lib.hid hN
  have HK1 := Lib.hid hk1
  have HT := Lib.hid ht
  clear h hi hs hh hN hk1 ht
  go_enter Tryd.func11, Tryd.ntmps11
  go_upto_region 3 with (first
    | (go_at_call 30; refine Calls.mono HS.out ?_; rintro e w1 ⟨rfl, ow1, nv1, ov1, hd1, hc1⟩; have HD1 := Lib.hid hd1; have HC1 := Lib.hid hc1; clear hd1 hc1)
    | (go_at_call 31; refine Calls.mono (HF.out ow1 nv1 ov1 w1 HD1.out (HH.out.keep HC1.out.below hB0)) ?_; rintro e w2 ⟨b, k, i, rfl, hf, hb2⟩))
  have HFD := Lib.hid hf
  have hz1 := HC1.out.below.size
  have HD2 := Lib.hid (HD1.out.below hb2)
  have HC2 := Lib.hid (HC1.out.trans (Chg.of_below hb2 (by omega)))
  have hz2 := HC2.out.below.size
  clear HF HS hf hb2 HD1 HC1
  by_cases hpos : 0 ≤ i
  · obtain ⟨bb, o, L, c, j, u0, rfl, q1, q2, q3, q4, hD3, hC3⟩ := found_put HD2.out HI.out HFD.out hpos (.string v)
    have hhas := found_has HFD.out
    rw [decide_eq_true hpos] at hhas
    have HD3 := Lib.hid hD3
    have HC3 := Lib.hid hC3
    have hput : s.put t (.string v) = s.upd t (.string v) := by unfold Dm.put; rw [if_pos hhas]
    have HP := Lib.hid hput
    have HHS := Lib.hid hhas
    have hj1 : (j : Int) < (L : Int) := by omega
    clear hD3 hC3 hhas hput
    go_wp2
    go_ret
    exact ⟨by rw [HHS.out]; rfl, ow1, gn, go, nv1, ov1, by rw [HP.out]; exact HD3.out, HC2.out.trans HC3.out⟩
  have hhas := found_has HFD.out
  rw [decide_eq_false hpos] at hhas
  have HHS := Lib.hid hhas
  obtain ⟨q0, q1, q2, q3⟩ := cells4 HD2.out.blk
  rw [← HN.out] at q0
  have HV2 := Lib.hid (HH.out.keep HC2.out.below hB0)
  clear hhas q1 q2 q3 HFD
  have hng : i < 0 := by omega
  go_upto_region 7 with (go_at_call 32; refine Calls.mono (HRM.out _ HV2.out) ?_; rintro e w3 ⟨rfl, hb3⟩)
  have HD3 := Lib.hid (HD2.out.below hb3)
  have HC3 := Lib.hid (HC2.out.trans (Chg.of_below hb3 (by omega)))
  have hz3 := HC3.out.below.size
  clear HD2 HC2 hb3 q0 HV2 HRM
  have hlk : s.now[k1]? = some (rm s.now t) := by
    have := rm_at (l := s.now) t (by rw [← HN.out]; omega)
    rw [← HN.out, ← HK1.out] at this; exact this
  have hln : (rm s.now t).length ≤ 1000000000 := by have := (HI.out.rmN t).1; omega
  have HLK := Lib.hid hlk
  obtain ⟨A2, c2, q5, hv2, -, how, htg⟩ := HD3.out.now.room hlk
  have q6 := of_blk_free HD3.out.now.blk k1
  obtain ⟨q7, -, -, -⟩ := cells4 HD3.out.blk
  rw [← HN.out] at q7
  have HV2 := Lib.hid hv2
  have HOW := Lib.hid how
  have hne1 : (Value.slice A2 (rm s.now t).length c2).ownBlock ≠ some g := fun e => by have t1 := htg g e; rw [HD3.out.tag] at t1; simp at t1
  have hne2 : (Value.slice A2 (rm s.now t).length c2).ownBlock ≠ some gn := fun e => by have t1 := htg gn e; rw [HD3.out.now.tag] at t1; simp at t1
  have hgl1 : g < w3.heap.size := lt_of_blk HD3.out.blk
  have hgl2 : gn < w3.heap.size := lt_of_blk HD3.out.now.blk
  have HGB := Lib.hid HD3.out.blk
  have HNB := Lib.hid HD3.out.now.blk
  obtain ⟨l2, hl2⟩ : ∃ l, l = (rm s.now t).length := ⟨_, rfl⟩
  rw [← hl2] at hne1 hne2 q5 HV2 HOW hln
  have HL2 := Lib.hid hl2
  clear hlk hv2 how htg hl2
  obtain ⟨i0, hi0, hz0, hzz1, hzz2⟩ := info_parts info69
  have HU2 := Lib.hid (show ∀ x ∈ [Value.string t, (.string v)], x.oneCell' = true from fun x hx => by
    simp only [List.mem_cons, List.not_mem_nil, or_false] at hx
    rcases hx with rfl | rfl <;> rfl)
  have hgg : g ≠ gn := fun e => by have t1 := HD3.out.tag; rw [e, HD3.out.now.tag] at t1; simp at t1
  have HADD := Lib.hid (fun (w4 : World) (gg cap : Nat) (W : World) (hown : w4.ownsRow B 69 2 (.slice (some ⟨gg, 0, none⟩) (l2 + 1) cap) (l2 + 1) (ics (rm s.now t) ++ [.string t, (.string v)])) (hgrow : W.grownBy w4 (Value.slice A2 l2 c2).ownBlock) (hBW : Below w3.heap.size w3 W) (hat : (Value.slice A2 l2 c2).ownBlock = some gg ∨ gg = w3.heap.size + 1) =>
    DR.add (v1 := .slice (some ⟨gg, 0, none⟩) (l2 + 1) cap) (l2 := rm s.now t ++ [(t, (.string v))]) HD3.out HLK.out HV2.out
      (by rw [List.length_append, ← HL2.out, ics_app]; exact hown)
      (Below.grown (hBW.mono (by omega)) hgrow (by have := hBW.size; omega) (fun q hq => (HOW.out.lt q hq).1))
      (fun q hq hne => (hgrow.block q (by have := hBW.size; omega) hne).trans (hBW.block q hq))
      (by rcases hat with e | e
          · exact .inl e.symm
          · exact .inr fun q hq => (by have e2 : gg = q := Option.some.inj hq; omega)))
  go_cut [9] (fun s9 wx => RowKit.Hid (∃ ow4 nv4, DR wx B 64 70 69 g ow4 { s with now := addR s.now (t, (.string v)) } gn go nv4 ov1 ∧ Chg B g ow ow4 w wx))
  case first =>
    refine wp_region_noPanic ?_
    refine wp_region_held_drew (S := (fun w' => w'.cell? ⟨g, 0, none⟩ = some (.slice (some ⟨gn, 0, none⟩) N N))) (by kernel_rfl) ?_ (fun hHeld => ?_)
    · (try dsimp only); (first | exact s0 | exact cell_off s0 hgg | exact q7 | go_keep)
    refine wpAnyH_take (i := 0) (v := ?v1) rfl (by kernel_rfl) (by kernel_rfl) (by kernel_rfl) (fun _ _ _ h => h) (Or.inl ⟨by rfl, ?hy1⟩) (by assumption) ?rest1
    case hy1 => (intro w hSw; (try dsimp only at hSw); go_simp <;> (with_reducible rfl))
    try simp only [Act.put, List.setIfInBounds_toArray, List.set_cons_zero, List.set_cons_succ]
    refine wpAnyH_take (i := 1) (v := ?v2) rfl (by kernel_rfl) (by kernel_rfl) (by kernel_rfl) (fun _ _ _ h => h) (Or.inl ⟨by rfl, ?hy2⟩) (by assumption) ?rest2
    case hy2 => (intro w hSw; (try dsimp only at hSw); go_simp <;> (with_reducible rfl))
    try simp only [Act.put, List.setIfInBounds_toArray, List.set_cons_zero, List.set_cons_succ]
    refine wpAnyH_take (i := 2) (v := ?v3) rfl (by kernel_rfl) (by kernel_rfl) (by kernel_rfl) (fun _ _ _ h => h) (Or.inl ⟨by rfl, ?hy3⟩) (by assumption) ?rest3
    case hy3 => (intro w hSw; (try dsimp only at hSw); go_simp <;> (with_reducible rfl))
    try simp only [Act.put, List.setIfInBounds_toArray, List.set_cons_zero, List.set_cons_succ]
    refine wpAnyH_take (i := 3) (v := ?v4) rfl (by kernel_rfl) (by kernel_rfl) (by kernel_rfl) (fun _ _ _ h => h) (Or.inl ⟨by rfl, ?hy4⟩) (by assumption) ?rest4
    case hy4 => (intro w hSw; (try dsimp only at hSw); go_simp <;> (with_reducible rfl))
    try simp only [Act.put, List.setIfInBounds_toArray, List.set_cons_zero, List.set_cons_succ]
    refine wpAnyH_take (i := 4) (v := ?v5) rfl (by kernel_rfl) (by kernel_rfl) (by kernel_rfl) (fun _ _ _ h => h) (Or.inl ⟨by rfl, ?hy5⟩) (by assumption) ?rest5
    case hy5 => (intro w hSw; (try dsimp only at hSw); go_simp <;> (with_reducible rfl))
    try simp only [Act.put, List.setIfInBounds_toArray, List.set_cons_zero, List.set_cons_succ]
    refine wpAnyH_take (i := 5) (v := ?v6) rfl (by kernel_rfl) (by kernel_rfl) (by kernel_rfl) (fun _ _ _ h => h) (Or.inl ⟨by rfl, ?hy6⟩) (by assumption) ?rest6
    case hy6 => (intro w hSw; (try dsimp only at hSw); go_simp <;> (with_reducible rfl))
    try simp only [Act.put, List.setIfInBounds_toArray, List.set_cons_zero, List.set_cons_succ]
    refine wpAnyH_take (i := 6) (v := ?v7) rfl (by kernel_rfl) (by kernel_rfl) (by kernel_rfl) (fun _ _ _ h => h) (Or.inl ⟨by rfl, ?hy7⟩) (by assumption) ?rest7
    case hy7 => (intro w hSw; (try dsimp only at hSw); go_simp <;> (with_reducible rfl))
    try simp only [Act.put, List.setIfInBounds_toArray, List.set_cons_zero, List.set_cons_succ]
    refine wpAnyH_take (i := 7) (v := ?v8) rfl (by kernel_rfl) (by kernel_rfl) (by kernel_rfl) (fun _ _ _ h => h) (Or.inl ⟨by rfl, ?hy8⟩) (by assumption) ?rest8
    case hy8 => (intro w hSw; (try dsimp only at hSw); go_simp <;> (with_reducible rfl))
    try simp only [Act.put, List.setIfInBounds_toArray, List.set_cons_zero, List.set_cons_succ]
    refine wpAnyH_take (i := 8) (v := ?v9) rfl (by kernel_rfl) (by kernel_rfl) (by kernel_rfl) (fun _ _ _ h => h) (Or.inl ⟨by rfl, ?hy9⟩) (by assumption) ?rest9
    case hy9 => (intro w hSw; (try dsimp only at hSw); go_simp <;> (with_reducible rfl))
    try simp only [Act.put, List.setIfInBounds_toArray, List.set_cons_zero, List.set_cons_succ]
    refine wpAnyH_take (i := 9) (v := ?v10) rfl (by kernel_rfl) (by kernel_rfl) (by kernel_rfl) (fun _ _ _ h => h) (Or.inl ⟨by rfl, ?hy10⟩) (by assumption) ?rest10
    case hy10 => (intro w hSw; (try dsimp only at hSw); go_simp <;> (with_reducible rfl))
    try simp only [Act.put, List.setIfInBounds_toArray, List.set_cons_zero, List.set_cons_succ]
    refine wpAnyH_take (i := 10) (v := ?v11) rfl (by kernel_rfl) (by kernel_rfl) (by kernel_rfl) (fun _ _ _ h => h) (Or.inl ⟨by rfl, ?hy11⟩) (by assumption) ?rest11
    case hy11 => (intro w hSw; (try dsimp only at hSw); go_simp <;> (with_reducible rfl))
    try simp only [Act.put, List.setIfInBounds_toArray, List.set_cons_zero, List.set_cons_succ]
    refine wpAnyH_take (i := 12) (v := ?v12) rfl (by kernel_rfl) (by kernel_rfl) (by kernel_rfl) (fun _ _ _ h => h) (Or.inl ⟨by rfl, ?hy12⟩) (by assumption) ?rest12
    case hy12 => (intro w hSw; (try dsimp only at hSw); go_simp <;> (with_reducible rfl))
    try simp only [Act.put, List.setIfInBounds_toArray, List.set_cons_zero, List.set_cons_succ]
    refine wpAnyH_take (i := 13) (v := ?v13) rfl (by kernel_rfl) (by kernel_rfl) (by kernel_rfl) (fun _ _ _ h => h) (Or.inl ⟨by rfl, ?hy13⟩) (by assumption) ?rest13
    case hy13 => (intro w hSw; (try dsimp only at hSw); go_simp <;> (with_reducible rfl))
    try simp only [Act.put, List.setIfInBounds_toArray, List.set_cons_zero, List.set_cons_succ]
    refine wpAnyH_take (i := 14) (v := ?v14) rfl (by kernel_rfl) (by kernel_rfl) (by kernel_rfl) (fun _ _ _ h => h) (Or.inl ⟨by rfl, ?hy14⟩) (by assumption) ?rest14
    case hy14 => (intro w hSw; (try dsimp only at hSw); go_simp <;> (with_reducible rfl))
    try simp only [Act.put, List.setIfInBounds_toArray, List.set_cons_zero, List.set_cons_succ]
    refine wpAnyH_ready (rs := [11, 15]) (by kernel_rfl) (by simp) ?_
    refine AllReadyH.cons rfl (fun K hK => ?_) ?_
    · go_simp
      refine hK.out _ _ ?_ (fun hHeld => ?_)
      · (try dsimp only); (first | exact s0 | exact cell_off s0 hgg | exact q7 | go_keep)
      clear hK K
      try simp only [Act.put, List.setIfInBounds_toArray, List.set_cons_zero, List.set_cons_succ]
      refine wpAnyH_ready (rs := [15]) (by kernel_rfl) (by simp) ?_
      refine AllReadyH.cons rfl (fun K hK => ?_) ?_
      · go_simp
        refine hK.out _ _ ?_ (fun hHeld => ?_)
        · (try dsimp only); (first | exact s0 | exact cell_off s0 hgg | exact q7 | go_keep)
        clear hK K
        try simp only [Act.put, List.setIfInBounds_toArray, List.set_cons_zero, List.set_cons_succ]
        refine wpAnyH_ready (rs := [16]) (by kernel_rfl) (by simp) ?_
        refine AllReadyH.cons rfl (fun K hK => ?_) ?_
        · (refine step_append_lies _ (by rfl) _ _ _ (by rfl) B 69 i0 _ 2 32 Tryd.underlying70 hi0 hz0 hzz1 hzz2 rfl (by omega) (.slice A2 l2 c2) l2 _ (by rfl) (by first | exact HOW.out.alloc _ | exact (HOW.out.alloc _).drew) ⟨w3.heap.size, 0, none⟩ 1 1 [.string t, (.string v)] (by rfl) (by rfl) (World.news_of_block (cs := #[.string t, (.string v)]) (t := 69) (fr := (0, 0)) (heap_alloc_new w3 _)) HU2.out (by omega) (by unfold maxLen; omega) (by omega) (by simp; omega) (w3.heap.size + 1) (by simp) ?_; intro gg cap w4 hown1 hgrow hat hlt9; have HQ2 := Lib.hid (HADD.out w4 gg cap _ hown1 hgrow (by ((repeat (first | exact Below.refl _ _ | (refine Below.drew ?_) | (refine Go.below_drewN ?_ _) | (refine Below.alloc ?_ (by first | (simp; done) | omega | (simp; omega)) _) | (refine Below.setCell ?_ (by first | (simp; done) | omega | (simp; omega)) _) | (refine Below.trans ?_ (Below.mono (by assumption) (by first | (simp; done) | omega | (simp; omega)))))); done)) hat); have hN2 : w4.heap[gn]? = some (.cells nv1.toArray 70 (0, 0)) := (hgrow.block gn (by simp; omega) (fun e => hne2 e.symm)).trans (by first | exact blk_new HNB.out _ | simpa using HNB.out); have s1 := (of_blk hN2 k1).trans ((of_blk HNB.out k1).symm.trans q5); have s4 := of_blk_free hN2 k1; have hG2 := (hgrow.block g (by simp; omega) (fun e => hne1 e.symm)).trans (by first | exact blk_new HGB.out _ | simpa using HGB.out); have s0 := (cells4 hG2).1.trans ((cells4 HGB.out).1.symm.trans q7); clear hown1 hgrow hat hG2 hN2)
          refine hK.out _ _ ?_ (fun hHeld => ?_)
          · (try dsimp only); (first | exact s0 | exact cell_off s0 hgg | exact q7 | go_keep)
          clear hK K
          try simp only [Act.put, List.setIfInBounds_toArray, List.set_cons_zero, List.set_cons_succ]
          refine wpAnyH_take (i := 17) (v := ?v15) rfl (by kernel_rfl) (by kernel_rfl) (by kernel_rfl) (fun _ _ _ h => h) (Or.inl ⟨by rfl, ?hy15⟩) (by assumption) ?rest15
          case hy15 => (intro w hSw; (try dsimp only at hSw); go_simp <;> (with_reducible rfl))
          try simp only [Act.put, List.setIfInBounds_toArray, List.set_cons_zero, List.set_cons_succ]
          refine wpAnyH_ready (rs := [18]) (by kernel_rfl) (by simp) ?_
          refine AllReadyH.cons rfl (fun K hK => ?_) ?_
          · go_simp
            refine hK.out _ _ ?_ (fun hHeld => ?_)
            · (try dsimp only); (first | exact s0 | exact cell_off s0 hgg | exact q7 | go_keep)
            clear hK K
            try simp only [Act.put, List.setIfInBounds_toArray, List.set_cons_zero, List.set_cons_succ]
            refine wpAnyH_done (by kernel_rfl) ?_ _
            refine NoPanic.normal ?_
            go_wp2_with fail
            go_meet
            refine Lib.hid ?_
            obtain ⟨ow2, h1, h2⟩ := HQ2.out
            refine ⟨ow2, nv1.set k1 (.slice (some ⟨gg, 0, none⟩) (l2 + 1) cap), ?_, HC3.out.trans h2⟩
            have e : s.now.set k1 (rm s.now t ++ [(t, (.string v))]) = addR s.now (t, (.string v)) := by unfold addR; dsimp only; rw [← HN.out, ← HK1.out]
            rw [← e]; exact h1
          exact AllReadyH.nil
        exact AllReadyH.nil
      exact AllReadyH.nil
    refine AllReadyH.cons rfl (fun K hK => ?_) ?_
    · go_simp
      refine hK.out _ _ ?_ (fun hHeld => ?_)
      · (try dsimp only); (first | exact s0 | exact cell_off s0 hgg | exact q7 | go_keep)
      clear hK K
      try simp only [Act.put, List.setIfInBounds_toArray, List.set_cons_zero, List.set_cons_succ]
      refine wpAnyH_ready (rs := [11]) (by kernel_rfl) (by simp) ?_
      refine AllReadyH.cons rfl (fun K hK => ?_) ?_
      · go_simp
        refine hK.out _ _ ?_ (fun hHeld => ?_)
        · (try dsimp only); (first | exact s0 | exact cell_off s0 hgg | exact q7 | go_keep)
        clear hK K
        try simp only [Act.put, List.setIfInBounds_toArray, List.set_cons_zero, List.set_cons_succ]
        refine wpAnyH_ready (rs := [16]) (by kernel_rfl) (by simp) ?_
        refine AllReadyH.cons rfl (fun K hK => ?_) ?_
        · (refine step_append_lies _ (by rfl) _ _ _ (by rfl) B 69 i0 _ 2 32 Tryd.underlying70 hi0 hz0 hzz1 hzz2 rfl (by omega) (.slice A2 l2 c2) l2 _ (by rfl) (by first | exact HOW.out.alloc _ | exact (HOW.out.alloc _).drew) ⟨w3.heap.size, 0, none⟩ 1 1 [.string t, (.string v)] (by rfl) (by rfl) (World.news_of_block (cs := #[.string t, (.string v)]) (t := 69) (fr := (0, 0)) (heap_alloc_new w3 _)) HU2.out (by omega) (by unfold maxLen; omega) (by omega) (by simp; omega) (w3.heap.size + 1) (by simp) ?_; intro gg cap w4 hown1 hgrow hat hlt9; have HQ2 := Lib.hid (HADD.out w4 gg cap _ hown1 hgrow (by ((repeat (first | exact Below.refl _ _ | (refine Below.drew ?_) | (refine Go.below_drewN ?_ _) | (refine Below.alloc ?_ (by first | (simp; done) | omega | (simp; omega)) _) | (refine Below.setCell ?_ (by first | (simp; done) | omega | (simp; omega)) _) | (refine Below.trans ?_ (Below.mono (by assumption) (by first | (simp; done) | omega | (simp; omega)))))); done)) hat); have hN2 : w4.heap[gn]? = some (.cells nv1.toArray 70 (0, 0)) := (hgrow.block gn (by simp; omega) (fun e => hne2 e.symm)).trans (by first | exact blk_new HNB.out _ | simpa using HNB.out); have s1 := (of_blk hN2 k1).trans ((of_blk HNB.out k1).symm.trans q5); have s4 := of_blk_free hN2 k1; have hG2 := (hgrow.block g (by simp; omega) (fun e => hne1 e.symm)).trans (by first | exact blk_new HGB.out _ | simpa using HGB.out); have s0 := (cells4 hG2).1.trans ((cells4 HGB.out).1.symm.trans q7); clear hown1 hgrow hat hG2 hN2)
          refine hK.out _ _ ?_ (fun hHeld => ?_)
          · (try dsimp only); (first | exact s0 | exact cell_off s0 hgg | exact q7 | go_keep)
          clear hK K
          try simp only [Act.put, List.setIfInBounds_toArray, List.set_cons_zero, List.set_cons_succ]
          refine wpAnyH_take (i := 17) (v := ?v16) rfl (by kernel_rfl) (by kernel_rfl) (by kernel_rfl) (fun _ _ _ h => h) (Or.inl ⟨by rfl, ?hy16⟩) (by assumption) ?rest16
          case hy16 => (intro w hSw; (try dsimp only at hSw); go_simp <;> (with_reducible rfl))
          try simp only [Act.put, List.setIfInBounds_toArray, List.set_cons_zero, List.set_cons_succ]
          refine wpAnyH_ready (rs := [18]) (by kernel_rfl) (by simp) ?_
          refine AllReadyH.cons rfl (fun K hK => ?_) ?_
          · go_simp
            refine hK.out _ _ ?_ (fun hHeld => ?_)
            · (try dsimp only); (first | exact s0 | exact cell_off s0 hgg | exact q7 | go_keep)
            clear hK K
            try simp only [Act.put, List.setIfInBounds_toArray, List.set_cons_zero, List.set_cons_succ]
            refine wpAnyH_done (by kernel_rfl) ?_ _
            refine NoPanic.normal ?_
            go_wp2_with fail
            go_meet
            refine Lib.hid ?_
            obtain ⟨ow2, h1, h2⟩ := HQ2.out
            refine ⟨ow2, nv1.set k1 (.slice (some ⟨gg, 0, none⟩) (l2 + 1) cap), ?_, HC3.out.trans h2⟩
            have e : s.now.set k1 (rm s.now t ++ [(t, (.string v))]) = addR s.now (t, (.string v)) := by unfold addR; dsimp only; rw [← HN.out, ← HK1.out]
            rw [← e]; exact h1
          exact AllReadyH.nil
        exact AllReadyH.nil
      exact AllReadyH.nil
    exact AllReadyH.nil
  case rest =>
    obtain ⟨ow4, nv4, hd4, hc4⟩ := hcut.out
    have HD4 := Lib.hid hd4
    have HC4 := Lib.hid hc4
    have hz4 := hc4.below.size
    have hBg : B ≤ g := hd4.base
    have hb4 := hd4.blk
    have hNN : (addR s.now (t, (.string v))).length = N := by rw [addR_len, HN.out]
    obtain ⟨X, hX⟩ : ∃ X, X = s.many := ⟨_, rfl⟩
    have hXK : X ≤ 1000000000 := by have := HI.out.mK; omega
    have hw1 : IntKind.i64.wrap ((X : Int) + 1) = ((X + 1 : Nat) : Int) := wrap_small _ (by omega) (by omega)
    dsimp only at hb4
    rw [hNN, ← hX] at hb4
    have HS8 := Lib.hid (hd4.cells (w1 := wc.setCell ⟨g, 3, none⟩ (.int .i64 ((X + 1 : Nat) : Int))) { s with now := addR s.now (t, (.string v)), many := s.many + 1 } rfl (.inl rfl) (fun b hb => heap_set _ _ _ _ _ hb) (Below.setCell (p := ⟨g, 3, none⟩) (Below.refl _ _) hBg _)
      (by rw [blk_set hb4]; dsimp only; rw [hNN, ← hX]; rfl))
    have HX := Lib.hid hX
    have HNN := Lib.hid hNN
    obtain ⟨y0, y1, y2, y3⟩ := cells4 hb4
    obtain ⟨f0, f1, f2, f3⟩ := frees4 hb4
    clear hcut hd4 hc4 hb4 hNN hX HADD HD3 HC3 HGB HNB q7 q6 q5 y0 y1 y2 f0 f1 f2 HOW HV2 HLK
    go_upto_region 8 with fail
    go_cut [9] (fun s9 wx => RowKit.Hid (DR wx B 64 70 69 g ow4 { s with now := addR s.now (t, (.string v)), many := s.many + 1 } gn go nv4 ov1 ∧ Chg B g ow ow4 w wx))
    case first =>
      go_wp2_with fail
      go_meet
      first
        | exact Lib.hid ⟨HS8.out.1, HC4.out.trans HS8.out.2⟩
        | (rw [hw1]; exact Lib.hid ⟨HS8.out.1, HC4.out.trans HS8.out.2⟩)
    case rest =>
      have HD5 := Lib.hid hcut.out.1
      have HC5 := Lib.hid hcut.out.2
      have hz5 := HC5.out.below.size
      have hb5 := HD5.out.blk
      dsimp only at hb5
      rw [HNN.out, ← HX.out] at hb5
      obtain ⟨y0, y1, y2, y3⟩ := cells4 hb5
      obtain ⟨O, hO⟩ : ∃ O, O = s.old.length := ⟨_, rfl⟩
      rw [← hO] at y1
      clear hcut hb5 HS8 HD4 HC4 y2 f3
      have hret : ∀ b : Bool, b = false → s.has t = b → True := fun _ _ _ => trivial
      clear hret
      rcases Nat.eq_zero_or_pos O with h0 | h0
      · subst h0
        have y1' : wc.cell? ⟨g, 1, none⟩ = some (.slice none 0 0) := y1
        have hold : s.old = [] := List.eq_nil_of_length_eq_zero hO.symm
        by_cases hgt : N < X + 1
        · have hput : s.put t (.string v) = { now := List.replicate (2 * N) [], old := addR s.now (t, (.string v)), next := s.next, many := s.many + 1 } := by
            unfold Dm.put
            rw [if_neg (by rw [HHS.out]; decide), if_pos ⟨hO.symm, by rw [← HN.out, ← HX.out]; exact hgt⟩, HN.out]
          have HP := Lib.hid hput
          have HBH := Lib.hid (fun (wx : World) (hd : DR wx B 64 70 69 g ow4 { s with now := addR s.now (t, (.string v)), many := s.many + 1 } gn go nv4 ov1) => beginS_is B g gn go (2 * N) ow4 _ nv4 ov1 wx hd hold (by show 0 < (addR s.now (t, (.string v))).length; rw [HNN.out]; omega) (by omega))
          have hd1 : decide (((X + 1 : Nat) : Int) > (N : Int)) = true := decide_eq_true (by omega)
          have hd2 : (N : Int) < ((X + 1 : Nat) : Int) := by omega
          have hw2 : IntKind.i64.wrap (2 * (N : Int)) = ((2 * N : Nat) : Int) := by rw [wrap_small _ (by omega) (by omega)]; omega
          clear hput hold hO y1
          go_upto_region 9 with fail
          go_quiet (fail)
          go_wp2_with (go_at_call 33; (try rw [hw2]); refine Calls.mono (HBH.out _ (HD5.out.below (Go.below_drewN (Below.refl _ _) _))) ?_; rintro e w6 ⟨rfl, ow6, bn, hd6, hc6⟩; have HD6 := Lib.hid hd6; have HC6 := Lib.hid hc6; clear hd6 hc6)
          go_ret
          exact ⟨by rw [HHS.out]; rfl, ow6, bn, gn, _, nv4, by rw [HP.out]; exact HD6.out, (HC5.out.trans (Chg.of_below (Go.below_drewN (Below.refl _ _) _) (by omega))).trans HC6.out⟩
        · have hput : s.put t (.string v) = { s with now := addR s.now (t, (.string v)), many := s.many + 1 } := by
            unfold Dm.put
            rw [if_neg (by rw [HHS.out]; decide), if_neg (by rintro ⟨-, h2⟩; rw [← HN.out, ← HX.out] at h2; exact hgt h2)]
          have HP := Lib.hid hput
          have hd1 : decide (((X + 1 : Nat) : Int) > (N : Int)) = false := decide_eq_false (by omega)
          have hd2 : ¬ (N : Int) < ((X + 1 : Nat) : Int) := by omega
          clear hput hold hO y1
          go_upto_region 9 with fail
          go_quiet (fail)
          go_wp2
          go_ret
          first | exact ⟨by rw [HHS.out]; rfl, ow4, gn, go, _, ov1, by rw [HP.out]; exact HD5.out.below (Go.below_drewN (Below.refl _ _) _), HC5.out.trans (Chg.of_below (Go.below_drewN (Below.refl _ _) _) (by omega))⟩ | exact ⟨by rw [HHS.out]; rfl, ow4, ⟨gn, go, _, ov1, by rw [HP.out]; exact HD5.out.below (Go.below_drewN (Below.refl _ _) _)⟩, HC5.out.trans (Chg.of_below (Go.below_drewN (Below.refl _ _) _) (by omega))⟩
      · rw [slV_pos h0] at y1
        have hput : s.put t (.string v) = { s with now := addR s.now (t, (.string v)), many := s.many + 1 } := by
          unfold Dm.put
          rw [if_neg (by rw [HHS.out]; decide), if_neg (by rintro ⟨h2, -⟩; rw [← hO] at h2; omega)]
        have HP := Lib.hid hput
        have hb0 : ((O : Int) == 0) = false := by simp; omega
        have hd0 : decide ((O : Int) = 0) = false := by simp; omega
        have hpO : (0 : Int) < (O : Int) := by omega
        clear hput hO
        go_upto_region 9 with fail
        go_quiet (fail)
        go_wp2
        go_ret
        first | exact ⟨by rw [HHS.out]; rfl, ow4, gn, go, _, ov1, by rw [HP.out]; exact HD5.out.below (Go.below_drewN (Below.refl _ _) _), HC5.out.trans (Chg.of_below (Go.below_drewN (Below.refl _ _) _) (by omega))⟩ | exact ⟨by rw [HHS.out]; rfl, ow4, ⟨gn, go, _, ov1, by rw [HP.out]; exact HD5.out.below (Go.below_drewN (Below.refl _ _) _)⟩, HC5.out.trans (Chg.of_below (Go.below_drewN (Below.refl _ _) _) (by omega))⟩
/-- dict.Put, its way where the name is there. -/
theorem putI_is (B g gn go K : Nat) (ow : Ow) (m : Dm) (nv ov : List Value) (t : ByteArray) (v : Int) (w : World) (h : DR w B 75 81 80 g ow m gn go nv ov) (hi : Inv K m) (hs : Inv K m.step) (hK : K ≤ 1000000000) (ht : t.size ≤ 9223372036854775807) (hh : Hv w) (hB0 : 0 < B) :
    Calls Tryd.prog 15 #[.pointer (some ⟨g, 0, none⟩), .string t, (.int .i64 v)] w fun e w' => e = .returned (.bool (m.step.has t)) ∧ ∃ ow' gn' go' nv' ov', DR w' B 75 81 80 g ow' (m.step.put t (.int .i64 v)) gn' go' nv' ov' ∧ Chg B g ow ow' w w' := by
  have hBw : B ≤ w.heap.size := by have h1 := h.base; have h2 := lt_of_blk h.blk; omega
  have HS := Lib.hid (stepI_is B g gn go K ow m nv ov w h hi hK hh hB0)
  generalize m.step = s at HS hs ⊢
  have HF := Lib.hid (fun (ow1 : Ow) (nv1 ov1 : List Value) (wx : World) (hd : DR wx B 75 81 80 g ow1 s gn go nv1 ov1) (hv : Hv wx) => findI_is B g gn go K ow1 s nv1 ov1 t wx hd hs hK ht hv)
  have HI := Lib.hid hs
  have HH := Lib.hid hh
  obtain ⟨N, hN⟩ : ∃ N, N = s.now.length := ⟨_, rfl⟩
  have hn4 : 4 ≤ N := by rw [hN]; exact hs.n4
  have hnK : N ≤ 3000000000 := by have := hs.nK; omega
  obtain ⟨k1, hk1⟩ : ∃ k, k = hsh t % N := ⟨_, rfl⟩
  have hkN : k1 < N := by rw [hk1]; exact Nat.mod_lt _ (by omega)
  have HRM := Lib.hid (fun (wx : World) (hv : Hv wx) => (by rw [hk1]; exact room_is t N wx ht (by omega) (by omega) hv : Calls Tryd.prog 32 #[.string t, .int .i64 (N : Int)] wx fun e w' => e = .returned (.int .i64 (k1 : Int)) ∧ Below wx.heap.size wx w'))
  have HN := Lib.hid hN
  have HK1 := Lib.hid hk1
  have HT := Lib.hid ht
  clear h hi hs hh hN hk1 ht
  go_enter Tryd.func15, Tryd.ntmps15
  go_upto_region 3 with (first
    | (go_at_call 18; refine Calls.mono HS.out ?_; rintro e w1 ⟨rfl, ow1, nv1, ov1, hd1, hc1⟩; have HD1 := Lib.hid hd1; have HC1 := Lib.hid hc1; clear hd1 hc1)
    | (go_at_call 34; refine Calls.mono (HF.out ow1 nv1 ov1 w1 HD1.out (HH.out.keep HC1.out.below hB0)) ?_; rintro e w2 ⟨b, k, i, rfl, hf, hb2⟩))
  have HFD := Lib.hid hf
  have hz1 := HC1.out.below.size
  have HD2 := Lib.hid (HD1.out.below hb2)
  have HC2 := Lib.hid (HC1.out.trans (Chg.of_below hb2 (by omega)))
  have hz2 := HC2.out.below.size
  clear HF HS hf hb2 HD1 HC1
  by_cases hpos : 0 ≤ i
  · obtain ⟨bb, o, L, c, j, u0, rfl, q1, q2, q3, q4, hD3, hC3⟩ := found_put HD2.out HI.out HFD.out hpos (.int .i64 v)
    have hhas := found_has HFD.out
    rw [decide_eq_true hpos] at hhas
    have HD3 := Lib.hid hD3
    have HC3 := Lib.hid hC3
    have hput : s.put t (.int .i64 v) = s.upd t (.int .i64 v) := by unfold Dm.put; rw [if_pos hhas]
    have HP := Lib.hid hput
    have HHS := Lib.hid hhas
    have hj1 : (j : Int) < (L : Int) := by omega
    clear hD3 hC3 hhas hput
    go_wp2
    go_ret
    exact ⟨by rw [HHS.out]; rfl, ow1, gn, go, nv1, ov1, by rw [HP.out]; exact HD3.out, HC2.out.trans HC3.out⟩
  have hhas := found_has HFD.out
  rw [decide_eq_false hpos] at hhas
  have HHS := Lib.hid hhas
  obtain ⟨q0, q1, q2, q3⟩ := cells4 HD2.out.blk
  rw [← HN.out] at q0
  have HV2 := Lib.hid (HH.out.keep HC2.out.below hB0)
  clear hhas q1 q2 q3 HFD
  have hng : i < 0 := by omega
  go_upto_region 7 with (go_at_call 32; refine Calls.mono (HRM.out _ HV2.out) ?_; rintro e w3 ⟨rfl, hb3⟩)
  have HD3 := Lib.hid (HD2.out.below hb3)
  have HC3 := Lib.hid (HC2.out.trans (Chg.of_below hb3 (by omega)))
  have hz3 := HC3.out.below.size
  clear HD2 HC2 hb3 q0 HV2 HRM
  have hlk : s.now[k1]? = some (rm s.now t) := by
    have := rm_at (l := s.now) t (by rw [← HN.out]; omega)
    rw [← HN.out, ← HK1.out] at this; exact this
  have hln : (rm s.now t).length ≤ 1000000000 := by have := (HI.out.rmN t).1; omega
  have HLK := Lib.hid hlk
  obtain ⟨A2, c2, q5, hv2, -, how, htg⟩ := HD3.out.now.room hlk
  have q6 := of_blk_free HD3.out.now.blk k1
  obtain ⟨q7, -, -, -⟩ := cells4 HD3.out.blk
  rw [← HN.out] at q7
  have HV2 := Lib.hid hv2
  have HOW := Lib.hid how
  have hne1 : (Value.slice A2 (rm s.now t).length c2).ownBlock ≠ some g := fun e => by have t1 := htg g e; rw [HD3.out.tag] at t1; simp at t1
  have hne2 : (Value.slice A2 (rm s.now t).length c2).ownBlock ≠ some gn := fun e => by have t1 := htg gn e; rw [HD3.out.now.tag] at t1; simp at t1
  have hgl1 : g < w3.heap.size := lt_of_blk HD3.out.blk
  have hgl2 : gn < w3.heap.size := lt_of_blk HD3.out.now.blk
  have HGB := Lib.hid HD3.out.blk
  have HNB := Lib.hid HD3.out.now.blk
  obtain ⟨l2, hl2⟩ : ∃ l, l = (rm s.now t).length := ⟨_, rfl⟩
  rw [← hl2] at hne1 hne2 q5 HV2 HOW hln
  have HL2 := Lib.hid hl2
  clear hlk hv2 how htg hl2
  obtain ⟨i0, hi0, hz0, hzz1, hzz2⟩ := info_parts info80
  have HU2 := Lib.hid (show ∀ x ∈ [Value.string t, (.int .i64 v)], x.oneCell' = true from fun x hx => by
    simp only [List.mem_cons, List.not_mem_nil, or_false] at hx
    rcases hx with rfl | rfl <;> rfl)
  have hgg : g ≠ gn := fun e => by have t1 := HD3.out.tag; rw [e, HD3.out.now.tag] at t1; simp at t1
  have HADD := Lib.hid (fun (w4 : World) (gg cap : Nat) (W : World) (hown : w4.ownsRow B 80 2 (.slice (some ⟨gg, 0, none⟩) (l2 + 1) cap) (l2 + 1) (ics (rm s.now t) ++ [.string t, (.int .i64 v)])) (hgrow : W.grownBy w4 (Value.slice A2 l2 c2).ownBlock) (hBW : Below w3.heap.size w3 W) (hat : (Value.slice A2 l2 c2).ownBlock = some gg ∨ gg = w3.heap.size + 1) =>
    DR.add (v1 := .slice (some ⟨gg, 0, none⟩) (l2 + 1) cap) (l2 := rm s.now t ++ [(t, (.int .i64 v))]) HD3.out HLK.out HV2.out
      (by rw [List.length_append, ← HL2.out, ics_app]; exact hown)
      (Below.grown (hBW.mono (by omega)) hgrow (by have := hBW.size; omega) (fun q hq => (HOW.out.lt q hq).1))
      (fun q hq hne => (hgrow.block q (by have := hBW.size; omega) hne).trans (hBW.block q hq))
      (by rcases hat with e | e
          · exact .inl e.symm
          · exact .inr fun q hq => (by have e2 : gg = q := Option.some.inj hq; omega)))
  go_cut [9] (fun s9 wx => RowKit.Hid (∃ ow4 nv4, DR wx B 75 81 80 g ow4 { s with now := addR s.now (t, (.int .i64 v)) } gn go nv4 ov1 ∧ Chg B g ow ow4 w wx))
  case first =>
    refine wp_region_noPanic ?_
    refine wp_region_held_drew (S := (fun w' => w'.cell? ⟨g, 0, none⟩ = some (.slice (some ⟨gn, 0, none⟩) N N))) (by kernel_rfl) ?_ (fun hHeld => ?_)
    · (try dsimp only); (first | exact s0 | exact cell_off s0 hgg | exact q7 | go_keep)
    refine wpAnyH_take (i := 0) (v := ?v1) rfl (by kernel_rfl) (by kernel_rfl) (by kernel_rfl) (fun _ _ _ h => h) (Or.inl ⟨by rfl, ?hy1⟩) (by assumption) ?rest1
    case hy1 => (intro w hSw; (try dsimp only at hSw); go_simp <;> (with_reducible rfl))
    try simp only [Act.put, List.setIfInBounds_toArray, List.set_cons_zero, List.set_cons_succ]
    refine wpAnyH_take (i := 1) (v := ?v2) rfl (by kernel_rfl) (by kernel_rfl) (by kernel_rfl) (fun _ _ _ h => h) (Or.inl ⟨by rfl, ?hy2⟩) (by assumption) ?rest2
    case hy2 => (intro w hSw; (try dsimp only at hSw); go_simp <;> (with_reducible rfl))
    try simp only [Act.put, List.setIfInBounds_toArray, List.set_cons_zero, List.set_cons_succ]
    refine wpAnyH_take (i := 2) (v := ?v3) rfl (by kernel_rfl) (by kernel_rfl) (by kernel_rfl) (fun _ _ _ h => h) (Or.inl ⟨by rfl, ?hy3⟩) (by assumption) ?rest3
    case hy3 => (intro w hSw; (try dsimp only at hSw); go_simp <;> (with_reducible rfl))
    try simp only [Act.put, List.setIfInBounds_toArray, List.set_cons_zero, List.set_cons_succ]
    refine wpAnyH_take (i := 3) (v := ?v4) rfl (by kernel_rfl) (by kernel_rfl) (by kernel_rfl) (fun _ _ _ h => h) (Or.inl ⟨by rfl, ?hy4⟩) (by assumption) ?rest4
    case hy4 => (intro w hSw; (try dsimp only at hSw); go_simp <;> (with_reducible rfl))
    try simp only [Act.put, List.setIfInBounds_toArray, List.set_cons_zero, List.set_cons_succ]
    refine wpAnyH_take (i := 4) (v := ?v5) rfl (by kernel_rfl) (by kernel_rfl) (by kernel_rfl) (fun _ _ _ h => h) (Or.inl ⟨by rfl, ?hy5⟩) (by assumption) ?rest5
    case hy5 => (intro w hSw; (try dsimp only at hSw); go_simp <;> (with_reducible rfl))
    try simp only [Act.put, List.setIfInBounds_toArray, List.set_cons_zero, List.set_cons_succ]
    refine wpAnyH_take (i := 5) (v := ?v6) rfl (by kernel_rfl) (by kernel_rfl) (by kernel_rfl) (fun _ _ _ h => h) (Or.inl ⟨by rfl, ?hy6⟩) (by assumption) ?rest6
    case hy6 => (intro w hSw; (try dsimp only at hSw); go_simp <;> (with_reducible rfl))
    try simp only [Act.put, List.setIfInBounds_toArray, List.set_cons_zero, List.set_cons_succ]
    refine wpAnyH_take (i := 6) (v := ?v7) rfl (by kernel_rfl) (by kernel_rfl) (by kernel_rfl) (fun _ _ _ h => h) (Or.inl ⟨by rfl, ?hy7⟩) (by assumption) ?rest7
    case hy7 => (intro w hSw; (try dsimp only at hSw); go_simp <;> (with_reducible rfl))
    try simp only [Act.put, List.setIfInBounds_toArray, List.set_cons_zero, List.set_cons_succ]
    refine wpAnyH_take (i := 7) (v := ?v8) rfl (by kernel_rfl) (by kernel_rfl) (by kernel_rfl) (fun _ _ _ h => h) (Or.inl ⟨by rfl, ?hy8⟩) (by assumption) ?rest8
    case hy8 => (intro w hSw; (try dsimp only at hSw); go_simp <;> (with_reducible rfl))
    try simp only [Act.put, List.setIfInBounds_toArray, List.set_cons_zero, List.set_cons_succ]
    refine wpAnyH_take (i := 8) (v := ?v9) rfl (by kernel_rfl) (by kernel_rfl) (by kernel_rfl) (fun _ _ _ h => h) (Or.inl ⟨by rfl, ?hy9⟩) (by assumption) ?rest9
    case hy9 => (intro w hSw; (try dsimp only at hSw); go_simp <;> (with_reducible rfl))
    try simp only [Act.put, List.setIfInBounds_toArray, List.set_cons_zero, List.set_cons_succ]
    refine wpAnyH_take (i := 9) (v := ?v10) rfl (by kernel_rfl) (by kernel_rfl) (by kernel_rfl) (fun _ _ _ h => h) (Or.inl ⟨by rfl, ?hy10⟩) (by assumption) ?rest10
    case hy10 => (intro w hSw; (try dsimp only at hSw); go_simp <;> (with_reducible rfl))
    try simp only [Act.put, List.setIfInBounds_toArray, List.set_cons_zero, List.set_cons_succ]
    refine wpAnyH_take (i := 10) (v := ?v11) rfl (by kernel_rfl) (by kernel_rfl) (by kernel_rfl) (fun _ _ _ h => h) (Or.inl ⟨by rfl, ?hy11⟩) (by assumption) ?rest11
    case hy11 => (intro w hSw; (try dsimp only at hSw); go_simp <;> (with_reducible rfl))
    try simp only [Act.put, List.setIfInBounds_toArray, List.set_cons_zero, List.set_cons_succ]
    refine wpAnyH_take (i := 12) (v := ?v12) rfl (by kernel_rfl) (by kernel_rfl) (by kernel_rfl) (fun _ _ _ h => h) (Or.inl ⟨by rfl, ?hy12⟩) (by assumption) ?rest12
    case hy12 => (intro w hSw; (try dsimp only at hSw); go_simp <;> (with_reducible rfl))
    try simp only [Act.put, List.setIfInBounds_toArray, List.set_cons_zero, List.set_cons_succ]
    refine wpAnyH_take (i := 13) (v := ?v13) rfl (by kernel_rfl) (by kernel_rfl) (by kernel_rfl) (fun _ _ _ h => h) (Or.inl ⟨by rfl, ?hy13⟩) (by assumption) ?rest13
    case hy13 => (intro w hSw; (try dsimp only at hSw); go_simp <;> (with_reducible rfl))
    try simp only [Act.put, List.setIfInBounds_toArray, List.set_cons_zero, List.set_cons_succ]
    refine wpAnyH_take (i := 14) (v := ?v14) rfl (by kernel_rfl) (by kernel_rfl) (by kernel_rfl) (fun _ _ _ h => h) (Or.inl ⟨by rfl, ?hy14⟩) (by assumption) ?rest14
    case hy14 => (intro w hSw; (try dsimp only at hSw); go_simp <;> (with_reducible rfl))
    try simp only [Act.put, List.setIfInBounds_toArray, List.set_cons_zero, List.set_cons_succ]
    refine wpAnyH_ready (rs := [11, 15]) (by kernel_rfl) (by simp) ?_
    refine AllReadyH.cons rfl (fun K hK => ?_) ?_
    · go_simp
      refine hK.out _ _ ?_ (fun hHeld => ?_)
      · (try dsimp only); (first | exact s0 | exact cell_off s0 hgg | exact q7 | go_keep)
      clear hK K
      try simp only [Act.put, List.setIfInBounds_toArray, List.set_cons_zero, List.set_cons_succ]
      refine wpAnyH_ready (rs := [15]) (by kernel_rfl) (by simp) ?_
      refine AllReadyH.cons rfl (fun K hK => ?_) ?_
      · go_simp
        refine hK.out _ _ ?_ (fun hHeld => ?_)
        · (try dsimp only); (first | exact s0 | exact cell_off s0 hgg | exact q7 | go_keep)
        clear hK K
        try simp only [Act.put, List.setIfInBounds_toArray, List.set_cons_zero, List.set_cons_succ]
        refine wpAnyH_ready (rs := [16]) (by kernel_rfl) (by simp) ?_
        refine AllReadyH.cons rfl (fun K hK => ?_) ?_
        · (refine step_append_lies _ (by rfl) _ _ _ (by rfl) B 80 i0 _ 2 24 Tryd.underlying81 hi0 hz0 hzz1 hzz2 rfl (by omega) (.slice A2 l2 c2) l2 _ (by rfl) (by first | exact HOW.out.alloc _ | exact (HOW.out.alloc _).drew) ⟨w3.heap.size, 0, none⟩ 1 1 [.string t, (.int .i64 v)] (by rfl) (by rfl) (World.news_of_block (cs := #[.string t, (.int .i64 v)]) (t := 80) (fr := (0, 0)) (heap_alloc_new w3 _)) HU2.out (by omega) (by unfold maxLen; omega) (by omega) (by simp; omega) (w3.heap.size + 1) (by simp) ?_; intro gg cap w4 hown1 hgrow hat hlt9; have HQ2 := Lib.hid (HADD.out w4 gg cap _ hown1 hgrow (by ((repeat (first | exact Below.refl _ _ | (refine Below.drew ?_) | (refine Go.below_drewN ?_ _) | (refine Below.alloc ?_ (by first | (simp; done) | omega | (simp; omega)) _) | (refine Below.setCell ?_ (by first | (simp; done) | omega | (simp; omega)) _) | (refine Below.trans ?_ (Below.mono (by assumption) (by first | (simp; done) | omega | (simp; omega)))))); done)) hat); have hN2 : w4.heap[gn]? = some (.cells nv1.toArray 81 (0, 0)) := (hgrow.block gn (by simp; omega) (fun e => hne2 e.symm)).trans (by first | exact blk_new HNB.out _ | simpa using HNB.out); have s1 := (of_blk hN2 k1).trans ((of_blk HNB.out k1).symm.trans q5); have s4 := of_blk_free hN2 k1; have hG2 := (hgrow.block g (by simp; omega) (fun e => hne1 e.symm)).trans (by first | exact blk_new HGB.out _ | simpa using HGB.out); have s0 := (cells4 hG2).1.trans ((cells4 HGB.out).1.symm.trans q7); clear hown1 hgrow hat hG2 hN2)
          refine hK.out _ _ ?_ (fun hHeld => ?_)
          · (try dsimp only); (first | exact s0 | exact cell_off s0 hgg | exact q7 | go_keep)
          clear hK K
          try simp only [Act.put, List.setIfInBounds_toArray, List.set_cons_zero, List.set_cons_succ]
          refine wpAnyH_take (i := 17) (v := ?v15) rfl (by kernel_rfl) (by kernel_rfl) (by kernel_rfl) (fun _ _ _ h => h) (Or.inl ⟨by rfl, ?hy15⟩) (by assumption) ?rest15
          case hy15 => (intro w hSw; (try dsimp only at hSw); go_simp <;> (with_reducible rfl))
          try simp only [Act.put, List.setIfInBounds_toArray, List.set_cons_zero, List.set_cons_succ]
          refine wpAnyH_ready (rs := [18]) (by kernel_rfl) (by simp) ?_
          refine AllReadyH.cons rfl (fun K hK => ?_) ?_
          · go_simp
            refine hK.out _ _ ?_ (fun hHeld => ?_)
            · (try dsimp only); (first | exact s0 | exact cell_off s0 hgg | exact q7 | go_keep)
            clear hK K
            try simp only [Act.put, List.setIfInBounds_toArray, List.set_cons_zero, List.set_cons_succ]
            refine wpAnyH_done (by kernel_rfl) ?_ _
            refine NoPanic.normal ?_
            go_wp2_with fail
            go_meet
            refine Lib.hid ?_
            obtain ⟨ow2, h1, h2⟩ := HQ2.out
            refine ⟨ow2, nv1.set k1 (.slice (some ⟨gg, 0, none⟩) (l2 + 1) cap), ?_, HC3.out.trans h2⟩
            have e : s.now.set k1 (rm s.now t ++ [(t, (.int .i64 v))]) = addR s.now (t, (.int .i64 v)) := by unfold addR; dsimp only; rw [← HN.out, ← HK1.out]
            rw [← e]; exact h1
          exact AllReadyH.nil
        exact AllReadyH.nil
      exact AllReadyH.nil
    refine AllReadyH.cons rfl (fun K hK => ?_) ?_
    · go_simp
      refine hK.out _ _ ?_ (fun hHeld => ?_)
      · (try dsimp only); (first | exact s0 | exact cell_off s0 hgg | exact q7 | go_keep)
      clear hK K
      try simp only [Act.put, List.setIfInBounds_toArray, List.set_cons_zero, List.set_cons_succ]
      refine wpAnyH_ready (rs := [11]) (by kernel_rfl) (by simp) ?_
      refine AllReadyH.cons rfl (fun K hK => ?_) ?_
      · go_simp
        refine hK.out _ _ ?_ (fun hHeld => ?_)
        · (try dsimp only); (first | exact s0 | exact cell_off s0 hgg | exact q7 | go_keep)
        clear hK K
        try simp only [Act.put, List.setIfInBounds_toArray, List.set_cons_zero, List.set_cons_succ]
        refine wpAnyH_ready (rs := [16]) (by kernel_rfl) (by simp) ?_
        refine AllReadyH.cons rfl (fun K hK => ?_) ?_
        · (refine step_append_lies _ (by rfl) _ _ _ (by rfl) B 80 i0 _ 2 24 Tryd.underlying81 hi0 hz0 hzz1 hzz2 rfl (by omega) (.slice A2 l2 c2) l2 _ (by rfl) (by first | exact HOW.out.alloc _ | exact (HOW.out.alloc _).drew) ⟨w3.heap.size, 0, none⟩ 1 1 [.string t, (.int .i64 v)] (by rfl) (by rfl) (World.news_of_block (cs := #[.string t, (.int .i64 v)]) (t := 80) (fr := (0, 0)) (heap_alloc_new w3 _)) HU2.out (by omega) (by unfold maxLen; omega) (by omega) (by simp; omega) (w3.heap.size + 1) (by simp) ?_; intro gg cap w4 hown1 hgrow hat hlt9; have HQ2 := Lib.hid (HADD.out w4 gg cap _ hown1 hgrow (by ((repeat (first | exact Below.refl _ _ | (refine Below.drew ?_) | (refine Go.below_drewN ?_ _) | (refine Below.alloc ?_ (by first | (simp; done) | omega | (simp; omega)) _) | (refine Below.setCell ?_ (by first | (simp; done) | omega | (simp; omega)) _) | (refine Below.trans ?_ (Below.mono (by assumption) (by first | (simp; done) | omega | (simp; omega)))))); done)) hat); have hN2 : w4.heap[gn]? = some (.cells nv1.toArray 81 (0, 0)) := (hgrow.block gn (by simp; omega) (fun e => hne2 e.symm)).trans (by first | exact blk_new HNB.out _ | simpa using HNB.out); have s1 := (of_blk hN2 k1).trans ((of_blk HNB.out k1).symm.trans q5); have s4 := of_blk_free hN2 k1; have hG2 := (hgrow.block g (by simp; omega) (fun e => hne1 e.symm)).trans (by first | exact blk_new HGB.out _ | simpa using HGB.out); have s0 := (cells4 hG2).1.trans ((cells4 HGB.out).1.symm.trans q7); clear hown1 hgrow hat hG2 hN2)
          refine hK.out _ _ ?_ (fun hHeld => ?_)
          · (try dsimp only); (first | exact s0 | exact cell_off s0 hgg | exact q7 | go_keep)
          clear hK K
          try simp only [Act.put, List.setIfInBounds_toArray, List.set_cons_zero, List.set_cons_succ]
          refine wpAnyH_take (i := 17) (v := ?v16) rfl (by kernel_rfl) (by kernel_rfl) (by kernel_rfl) (fun _ _ _ h => h) (Or.inl ⟨by rfl, ?hy16⟩) (by assumption) ?rest16
          case hy16 => (intro w hSw; (try dsimp only at hSw); go_simp <;> (with_reducible rfl))
          try simp only [Act.put, List.setIfInBounds_toArray, List.set_cons_zero, List.set_cons_succ]
          refine wpAnyH_ready (rs := [18]) (by kernel_rfl) (by simp) ?_
          refine AllReadyH.cons rfl (fun K hK => ?_) ?_
          · go_simp
            refine hK.out _ _ ?_ (fun hHeld => ?_)
            · (try dsimp only); (first | exact s0 | exact cell_off s0 hgg | exact q7 | go_keep)
            clear hK K
            try simp only [Act.put, List.setIfInBounds_toArray, List.set_cons_zero, List.set_cons_succ]
            refine wpAnyH_done (by kernel_rfl) ?_ _
            refine NoPanic.normal ?_
            go_wp2_with fail
            go_meet
            refine Lib.hid ?_
            obtain ⟨ow2, h1, h2⟩ := HQ2.out
            refine ⟨ow2, nv1.set k1 (.slice (some ⟨gg, 0, none⟩) (l2 + 1) cap), ?_, HC3.out.trans h2⟩
            have e : s.now.set k1 (rm s.now t ++ [(t, (.int .i64 v))]) = addR s.now (t, (.int .i64 v)) := by unfold addR; dsimp only; rw [← HN.out, ← HK1.out]
            rw [← e]; exact h1
          exact AllReadyH.nil
        exact AllReadyH.nil
      exact AllReadyH.nil
    exact AllReadyH.nil
  case rest =>
    obtain ⟨ow4, nv4, hd4, hc4⟩ := hcut.out
    have HD4 := Lib.hid hd4
    have HC4 := Lib.hid hc4
    have hz4 := hc4.below.size
    have hBg : B ≤ g := hd4.base
    have hb4 := hd4.blk
    have hNN : (addR s.now (t, (.int .i64 v))).length = N := by rw [addR_len, HN.out]
    obtain ⟨X, hX⟩ : ∃ X, X = s.many := ⟨_, rfl⟩
    have hXK : X ≤ 1000000000 := by have := HI.out.mK; omega
    have hw1 : IntKind.i64.wrap ((X : Int) + 1) = ((X + 1 : Nat) : Int) := wrap_small _ (by omega) (by omega)
    dsimp only at hb4
    rw [hNN, ← hX] at hb4
    have HS8 := Lib.hid (hd4.cells (w1 := wc.setCell ⟨g, 3, none⟩ (.int .i64 ((X + 1 : Nat) : Int))) { s with now := addR s.now (t, (.int .i64 v)), many := s.many + 1 } rfl (.inl rfl) (fun b hb => heap_set _ _ _ _ _ hb) (Below.setCell (p := ⟨g, 3, none⟩) (Below.refl _ _) hBg _)
      (by rw [blk_set hb4]; dsimp only; rw [hNN, ← hX]; rfl))
    have HX := Lib.hid hX
    have HNN := Lib.hid hNN
    obtain ⟨y0, y1, y2, y3⟩ := cells4 hb4
    obtain ⟨f0, f1, f2, f3⟩ := frees4 hb4
    clear hcut hd4 hc4 hb4 hNN hX HADD HD3 HC3 HGB HNB q7 q6 q5 y0 y1 y2 f0 f1 f2 HOW HV2 HLK
    go_upto_region 8 with fail
    go_cut [9] (fun s9 wx => RowKit.Hid (DR wx B 75 81 80 g ow4 { s with now := addR s.now (t, (.int .i64 v)), many := s.many + 1 } gn go nv4 ov1 ∧ Chg B g ow ow4 w wx))
    case first =>
      go_wp2_with fail
      go_meet
      first
        | exact Lib.hid ⟨HS8.out.1, HC4.out.trans HS8.out.2⟩
        | (rw [hw1]; exact Lib.hid ⟨HS8.out.1, HC4.out.trans HS8.out.2⟩)
    case rest =>
      have HD5 := Lib.hid hcut.out.1
      have HC5 := Lib.hid hcut.out.2
      have hz5 := HC5.out.below.size
      have hb5 := HD5.out.blk
      dsimp only at hb5
      rw [HNN.out, ← HX.out] at hb5
      obtain ⟨y0, y1, y2, y3⟩ := cells4 hb5
      obtain ⟨O, hO⟩ : ∃ O, O = s.old.length := ⟨_, rfl⟩
      rw [← hO] at y1
      clear hcut hb5 HS8 HD4 HC4 y2 f3
      have hret : ∀ b : Bool, b = false → s.has t = b → True := fun _ _ _ => trivial
      clear hret
      rcases Nat.eq_zero_or_pos O with h0 | h0
      · subst h0
        have y1' : wc.cell? ⟨g, 1, none⟩ = some (.slice none 0 0) := y1
        have hold : s.old = [] := List.eq_nil_of_length_eq_zero hO.symm
        by_cases hgt : N < X + 1
        · have hput : s.put t (.int .i64 v) = { now := List.replicate (2 * N) [], old := addR s.now (t, (.int .i64 v)), next := s.next, many := s.many + 1 } := by
            unfold Dm.put
            rw [if_neg (by rw [HHS.out]; decide), if_pos ⟨hO.symm, by rw [← HN.out, ← HX.out]; exact hgt⟩, HN.out]
          have HP := Lib.hid hput
          have HBH := Lib.hid (fun (wx : World) (hd : DR wx B 75 81 80 g ow4 { s with now := addR s.now (t, (.int .i64 v)), many := s.many + 1 } gn go nv4 ov1) => beginI_is B g gn go (2 * N) ow4 _ nv4 ov1 wx hd hold (by show 0 < (addR s.now (t, (.int .i64 v))).length; rw [HNN.out]; omega) (by omega))
          have hd1 : decide (((X + 1 : Nat) : Int) > (N : Int)) = true := decide_eq_true (by omega)
          have hd2 : (N : Int) < ((X + 1 : Nat) : Int) := by omega
          have hw2 : IntKind.i64.wrap (2 * (N : Int)) = ((2 * N : Nat) : Int) := by rw [wrap_small _ (by omega) (by omega)]; omega
          clear hput hold hO y1
          go_upto_region 9 with fail
          go_quiet (fail)
          go_wp2_with (go_at_call 35; (try rw [hw2]); refine Calls.mono (HBH.out _ (HD5.out.below (Go.below_drewN (Below.refl _ _) _))) ?_; rintro e w6 ⟨rfl, ow6, bn, hd6, hc6⟩; have HD6 := Lib.hid hd6; have HC6 := Lib.hid hc6; clear hd6 hc6)
          go_ret
          exact ⟨by rw [HHS.out]; rfl, ow6, bn, gn, _, nv4, by rw [HP.out]; exact HD6.out, (HC5.out.trans (Chg.of_below (Go.below_drewN (Below.refl _ _) _) (by omega))).trans HC6.out⟩
        · have hput : s.put t (.int .i64 v) = { s with now := addR s.now (t, (.int .i64 v)), many := s.many + 1 } := by
            unfold Dm.put
            rw [if_neg (by rw [HHS.out]; decide), if_neg (by rintro ⟨-, h2⟩; rw [← HN.out, ← HX.out] at h2; exact hgt h2)]
          have HP := Lib.hid hput
          have hd1 : decide (((X + 1 : Nat) : Int) > (N : Int)) = false := decide_eq_false (by omega)
          have hd2 : ¬ (N : Int) < ((X + 1 : Nat) : Int) := by omega
          clear hput hold hO y1
          go_upto_region 9 with fail
          go_quiet (fail)
          go_wp2
          go_ret
          first | exact ⟨by rw [HHS.out]; rfl, ow4, gn, go, _, ov1, by rw [HP.out]; exact HD5.out.below (Go.below_drewN (Below.refl _ _) _), HC5.out.trans (Chg.of_below (Go.below_drewN (Below.refl _ _) _) (by omega))⟩ | exact ⟨by rw [HHS.out]; rfl, ow4, ⟨gn, go, _, ov1, by rw [HP.out]; exact HD5.out.below (Go.below_drewN (Below.refl _ _) _)⟩, HC5.out.trans (Chg.of_below (Go.below_drewN (Below.refl _ _) _) (by omega))⟩
      · rw [slV_pos h0] at y1
        have hput : s.put t (.int .i64 v) = { s with now := addR s.now (t, (.int .i64 v)), many := s.many + 1 } := by
          unfold Dm.put
          rw [if_neg (by rw [HHS.out]; decide), if_neg (by rintro ⟨h2, -⟩; rw [← hO] at h2; omega)]
        have HP := Lib.hid hput
        have hb0 : ((O : Int) == 0) = false := by simp; omega
        have hd0 : decide ((O : Int) = 0) = false := by simp; omega
        have hpO : (0 : Int) < (O : Int) := by omega
        clear hput hO
        go_upto_region 9 with fail
        go_quiet (fail)
        go_wp2
        go_ret
        first | exact ⟨by rw [HHS.out]; rfl, ow4, gn, go, _, ov1, by rw [HP.out]; exact HD5.out.below (Go.below_drewN (Below.refl _ _) _), HC5.out.trans (Chg.of_below (Go.below_drewN (Below.refl _ _) _) (by omega))⟩ | exact ⟨by rw [HHS.out]; rfl, ow4, ⟨gn, go, _, ov1, by rw [HP.out]; exact HD5.out.below (Go.below_drewN (Below.refl _ _) _)⟩, HC5.out.trans (Chg.of_below (Go.below_drewN (Below.refl _ _) _) (by omega))⟩
end Go.Proofs.YtfdcacjfngjmdaaDoor.T
