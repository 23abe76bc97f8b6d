import Derived.Deep.DeepCutAuto
import Derived.Laws.OwnMore
import Derived.OwnWalk
import Derived.Lib.AppendStr
import Derived.Lib.SliceRun
import Derived.Lib.SmallJoins
import Derived.IntWalk
import Derived.WalkMore
import Derived.Lib.OthersKept
import Derived.Deep.LoopGhost
import Derived.Deep.RegionLaw
import Derived.Deep.AppendLies
import Derived.Test.YtfdcacjfngjmdaaDoorProg
import Derived.Test.YtfdcacjfngjmdaaDoorMem
import Derived.Test.YtfdcacjfngjmdaaDoorBlk
import Derived.Test.YtfdcacjfngjmdaaDoorAp
import Derived.Test.YtfdcacjfngjmdaaDoorDw
import Derived.WalkKit
import Derived.Outline
import Derived.WalkLawsBesides
import Derived.Deep.QuietTactic
import Derived.BigQuiet
import Derived.Lib.Hide
import Derived.Handy
import Derived.Deep.RegionHeld3
import Derived.Deep.DrawnRows
import Derived.KernelRfl
import Derived.Great.Walk
import Derived.Test.YtfdcacjfngjmdaaDoorOwn
namespace Go.Proofs.YtfdcacjfngjmdaaDoor.T
open Go Go.RowKit Go.Sort Mem Own
set_option maxRecDepth 100000
set_option maxHeartbeats 1000000
set_option linter.unusedVariables false
set_option linter.unusedSimpArgs false

/-- The two tables of a dict. -/
def Dm.tb (m : Dm) (j : Nat) : List (List It) := if j = 0 then m.now else m.old
def hdr (m : Dm) (gn go j : Nat) : Value := if j = 0 then .slice (some ⟨gn, 0, none⟩) m.now.length m.now.length else slV go m.old.length
theorem DR.table {w : World} {B D TR TI g gn go : Nat} {ow : Ow} {m : Dm} {nv ov : List Value} (h : DR w B D TR TI g ow m gn go nv ov) (j : Nat) :
    ∃ A n, hdr m gn go j = .slice A n n ∧ n = (m.tb j).length ∧ ∀ r room, (m.tb j)[r]? = some room → ∃ b A2 c, A = some ⟨b, 0, none⟩ ∧ w.cell? ⟨b, r, none⟩ = some (.slice A2 room.length c) ∧ RdI w A2 room := by
  unfold hdr Dm.tb
  by_cases hj : j = 0
  · rw [if_pos hj, if_pos hj]
    refine ⟨_, _, rfl, rfl, fun r room hr => ?_⟩
    obtain ⟨A, c, q, -, hA, -, -⟩ := h.now.room hr
    exact ⟨gn, A, c, rfl, q, hA⟩
  · rw [if_neg hj, if_neg hj]
    unfold slV
    by_cases ho : m.old.length = 0
    · rw [if_pos ho]
      refine ⟨none, 0, rfl, ho.symm, fun r room hr => ?_⟩
      rw [List.eq_nil_of_length_eq_zero ho] at hr; simp at hr
    · rw [if_neg ho]
      refine ⟨_, _, rfl, rfl, fun r room hr => ?_⟩
      obtain ⟨A, c, q, -, hA, -, -⟩ := (h.old (fun e => ho (by rw [e]; rfl))).1.room hr
      exact ⟨go, A, c, rfl, q, hA⟩
/-- The names of rooms. -/
def nms (l : List (List It)) : List ByteArray := l.flatten.map (·.1)
def Dm.names (m : Dm) : List ByteArray := m.all.map (·.1)
def Dm.upto (m : Dm) (j : Nat) : List ByteArray := if j = 0 then [] else if j = 1 then nms m.now else nms m.now ++ nms m.old
theorem upto_step (m : Dm) (j : Nat) (hj : j < 2) : m.upto (j + 1) = m.upto j ++ nms (m.tb j) := by
  rcases (show j = 0 ∨ j = 1 by omega) with rfl | rfl
  · simp [Dm.upto, Dm.tb]
  · simp [Dm.upto, Dm.tb]
theorem upto_two (m : Dm) : m.upto 2 = m.names := by simp [Dm.upto, Dm.names, Dm.all, nms]
theorem nms_len (l : List (List It)) : (nms l).length = l.flatten.length := by unfold nms; rw [List.length_map]
theorem nms_step {l : List (List It)} {r : Nat} {room : List It} (h : l[r]? = some room) : nms (l.take (r + 1)) = nms (l.take r) ++ room.map (·.1) := by
  have hr : r < l.length := (List.getElem?_eq_some_iff.1 h).1
  rw [List.getElem?_eq_getElem hr] at h
  injection h with h
  rw [List.take_succ_eq_append_getElem hr, h]
  simp [nms]
theorem tb_len {K : Nat} {m : Dm} (h : Inv K m) (j : Nat) (hj : j < 2) : (m.upto j).length + (nms (m.tb j)).length ≤ K := by
  have h1 := h.count
  have h2 := h.mK
  unfold Dm.all at h1
  rw [List.length_append] at h1
  rcases (show j = 0 ∨ j = 1 by omega) with rfl | rfl
  · show 0 + (nms m.now).length ≤ K; rw [nms_len]; omega
  · show (nms m.now).length + (nms m.old).length ≤ K; rw [nms_len, nms_len]; omega
theorem part_len (l : List (List It)) (r : Nat) (room : List It) (h : l[r]? = some room) : (nms (l.take r)).length + room.length ≤ (nms l).length := by
  have h1 := nms_step h
  have h2 : (nms (l.take (r + 1))).length ≤ (nms l).length := by
    rw [nms_len, nms_len]
    conv => rhs; rw [← List.take_append_drop (r + 1) l, List.flatten_append, List.length_append]
    omega
  rw [h1, List.length_append, List.length_map] at h2
  exact h2
theorem Inv.tbK {K : Nat} {m : Dm} (h : Inv K m) (j : Nat) : (m.tb j).length ≤ 2 * K + 4 := by
  unfold Dm.tb
  split
  · exact h.nK
  · exact h.oK
theorem Inv.tbOne {K : Nat} {m : Dm} (h : Inv K m) {j r : Nat} {room : List It} (hr : (m.tb j)[r]? = some room) : ∀ x ∈ room, x.2.oneCell' = true := by
  intro x hx
  have hm := List.mem_of_getElem? hr
  unfold Dm.tb at hm
  split at hm
  · exact (h.one x (List.mem_append_left _ (List.mem_flatten.2 ⟨_, hm, hx⟩))).1
  · exact (h.one x (List.mem_append_right _ (List.mem_flatten.2 ⟨_, hm, hx⟩))).1
theorem info9 : (Tryd.prog.info? 9).map (fun i => (i.zero, i.size, i.bytes)) = some (some (.string ⟨#[]⟩), 1, 16) := by kernel_rfl
/-- dict.Names -/
theorem namesS_is (B g gn go K : Nat) (ow : Ow) (m : Dm) (nv ov : List Value) (w : World) (h : DR w B 64 70 69 g ow m gn go nv ov) (hi : Inv K m) (hK : K ≤ 1000000000) :
    Calls Tryd.prog 22 #[.pointer (some ⟨g, 0, none⟩)] w fun e w' => ∃ A c, e = .returned (.slice A (srt m.names).length c) ∧ Rd w' A (srt m.names) ∧ Below w.heap.size w w' := by
  obtain ⟨q0, q1, -, -⟩ := cells4 h.blk
  have HD := Lib.hid h
  have HI := Lib.hid hi
  obtain ⟨A0, n0, e0, hn0, ht0⟩ := h.table 0
  obtain ⟨A1, n1, e1, hn1, ht1⟩ := h.table 1
  have q0' : w.cell? ⟨g, 0, none⟩ = some (.slice A0 n0 n0) := by rw [q0]; exact congrArg some e0
  have q1' : w.cell? ⟨g, 1, none⟩ = some (.slice A1 n1 n1) := by rw [q1]; exact congrArg some e1
  have HT0 := Lib.hid ht0
  have HT1 := Lib.hid ht1
  have HN0 := Lib.hid hn0
  have HN1 := Lib.hid hn1
  have HN := Lib.hid (new1 w.drew #[.slice A0 n0 n0, .slice A1 n1 n1] 62)
  clear h hi q0 q1 e0 e1 hn0 hn1 ht0 ht1
  go_enter Tryd.func22, Tryd.ntmps22
  go_upto_region 2 with fail
  go_cut [18, 19, 20] (fun s18 s19 s20 wx => s18 = .slice (some ⟨w.heap.size, 0, none⟩) 2 2 ∧ s19 = .int .i64 2 ∧ s20 = .int .i64 0 ∧ RowKit.Hid (wx.heap[w.heap.size]? = some (.cells #[.slice A0 n0 n0, .slice A1 n1 n1] 62 (0, 0))) ∧ RowKit.Hid (Below w.heap.size w wx))
  case first =>
    go_region_held3 (fun w' => w'.cell? ⟨g, 0, none⟩ = some (.slice A0 n0 n0) ∧ w'.cell? ⟨g, 1, none⟩ = some (.slice A1 n1 n1)) (first | exact ⟨q0', q1'⟩ | exact ⟨cell_below (new1 _ _ _).2 q0', cell_below (new1 _ _ _).2 q1'⟩ | (refine ⟨by go_keep, by go_keep⟩)) (fail)
    all_goals
      go_wp2_with fail
      go_meet
      exact ⟨rfl, rfl, rfl, Lib.hid (by have := HN.out.1; exact this), Lib.hid (by ((repeat (first | exact Below.refl _ _ | (refine Below.drew ?_) | (refine Go.below_drewN ?_ _) | (refine Below.alloc ?_ (by first | (simp; done) | omega | (simp; omega)) _) | (refine Below.setCell ?_ (by first | (simp; done) | omega | (simp; omega)) _) | (refine Below.trans ?_ (Below.mono (by assumption) (by first | (simp; done) | omega | (simp; omega)))))); done))⟩
  case rest =>
    obtain ⟨rfl, rfl, rfl, HB0, HW0⟩ := hcut
    have hzw := HW0.out.size
    have hzb := lt_of_blk HB0.out
    clear q0' q1' HN
    obtain ⟨i0, hi, hz0, hz1, hz2⟩ := info_parts info9
    go_wp2_with fail
    go_loopw [3, 20] (fun s3 s20 wr => ∃ (v0 : Value) (j : Nat) (o : List ByteArray), v0 = s3 ∧ j ≤ 2 ∧ s20 = .int .i64 j ∧ RowKit.Hid (o = m.upto j) ∧ RowKit.Hid (wr.ownsRow wc.heap.size 9 1 s3 o.length (vs o)) ∧ RowKit.Hid (Below wc.heap.size wc wr)) (fun _ s20 _ => 2 - (intOf s20).toNat)
    case atStart => exact ⟨_, 0, [], rfl, Nat.zero_le _, rfl, Lib.hid rfl, Lib.hid (World.ownsRow_nil _ _ _ _), Lib.hid (Below.refl _ _)⟩
    case round =>
      obtain ⟨v0, j, o, rfl, hj2, rfl, HO, HOW, HW⟩ := hrel
      have hzr := HW.out.size
      by_cases hlt : j < 2
      · have hjI : (j : Int) < 2 := by omega
        have hC : ∃ A n, wr.cell? ⟨w.heap.size, j, none⟩ = some (.slice A n n) ∧ n = (m.tb j).length ∧ RowKit.Hid (∀ r room, (m.tb j)[r]? = some room → ∃ b A2 c, A = some ⟨b, 0, none⟩ ∧ w.cell? ⟨b, r, none⟩ = some (.slice A2 room.length c) ∧ RdI w A2 room) := by
          obtain ⟨y0, y1⟩ := cells2 (keep_blk HW.out HB0.out)
          rcases (show j = 0 ∨ j = 1 by omega) with rfl | rfl
          · exact ⟨A0, n0, y0, HN0.out, HT0⟩
          · exact ⟨A1, n1, y1, HN1.out, HT1⟩
        obtain ⟨A, n, hc, hn, HT⟩ := hC
        have hnK : n ≤ 3000000000 := by have := HI.out.tbK j; omega
        have HNN := Lib.hid hn
        have HTL := Lib.hid (tb_len HI.out j hlt)
        have hol := Lib.hid (show o.length = (m.upto j).length by rw [HO.out])
        clear hn HT0 HT1 HN0 HN1
        go_wp2_with fail
        go_loopw [3, 26] (fun s3 s26 wr2 => ∃ (v1 : Value) (r : Nat) (o2 : List ByteArray), v1 = s3 ∧ r ≤ n ∧ s26 = .int .i64 r ∧ RowKit.Hid (o2 = m.upto j ++ nms ((m.tb j).take r)) ∧ RowKit.Hid (wr2.ownsRow wc.heap.size 9 1 s3 o2.length (vs o2)) ∧ RowKit.Hid (Below wc.heap.size wc wr2)) (fun _ s26 _ => n - (intOf s26).toNat)
        case atStart => exact ⟨_, 0, o, rfl, Nat.zero_le _, rfl, Lib.hid (by rw [HO.out]; simp [nms]), HOW, HW⟩
        case round =>
          obtain ⟨v1, r, o2, rfl, hrn, rfl, HO2, HOW2, HW2⟩ := hrel
          have hzr2 := HW2.out.size
          by_cases hlr : r < n
          · have hrI : (r : Int) < (n : Int) := by omega
            obtain ⟨room, hroom⟩ : ∃ room, (m.tb j)[r]? = some room := ⟨_, List.getElem?_eq_getElem (by rw [← HNN.out]; exact hlr)⟩
            obtain ⟨b, A2, c2, rfl, hcr, hrd⟩ := HT.out r room hroom
            have hcr2 := cell_below (HW0.out.trans (HW2.out.mono hzw)) hcr
            have HRD := Lib.hid hrd
            obtain ⟨L, hL⟩ : ∃ L, L = room.length := ⟨_, rfl⟩
            rw [← hL] at hcr2
            have HL := Lib.hid hL
            have HRM := Lib.hid hroom
            have HPL := Lib.hid (part_len _ _ _ hroom)
            have HONE := Lib.hid (HI.out.tbOne hroom)
            have HNS := Lib.hid (nms_step hroom)
            have hLK : L ≤ 1000000000 := by have := HPL.out; have := HTL.out; omega
            clear hcr hrd hL hroom hc
            go_wp2_with fail
            go_loopw [3, 32] (fun s3 s32 wr3 => ∃ (v2 : Value) (i : Nat) (o3 : List ByteArray), v2 = s3 ∧ i ≤ L ∧ s32 = .int .i64 i ∧ RowKit.Hid (o3 = m.upto j ++ nms ((m.tb j).take r) ++ (room.take i).map (·.1)) ∧ RowKit.Hid (wr3.ownsRow wc.heap.size 9 1 s3 o3.length (vs o3)) ∧ RowKit.Hid (Below wc.heap.size wc wr3)) (fun _ s32 _ => L - (intOf s32).toNat)
            case atStart => exact ⟨_, 0, o2, rfl, Nat.zero_le _, rfl, Lib.hid (by rw [HO2.out]; simp), HOW2, HW2⟩
            case round =>
              obtain ⟨v2, i, o3, rfl, hil, rfl, HO3, HOW3, HW3⟩ := hrel
              have hzr3 := HW3.out.size
              by_cases hli : i < L
              · have hiI : (i : Int) < (L : Int) := by omega
                have hlt2 := Lib.hid (show i < room.length by rw [← HL.out]; exact hli)
                obtain ⟨b1, o1, rfl⟩ := HRD.out.addr (by have := hlt2.out; omega)
                obtain ⟨g0, g1⟩ := (HRD.out.below (HW0.out.trans (HW3.out.mono hzw))).cell hlt2.out
                have hu1 := HONE.out _ (List.getElem_mem hlt2.out)
                have hNX := Lib.hid (show m.upto j ++ nms ((m.tb j).take r) ++ (room.take (i + 1)).map (·.1) = o3 ++ [(room[i]'hlt2.out).1] by rw [HO3.out, List.take_succ_eq_append_getElem hlt2.out, List.map_append, ← List.append_assoc]; rfl)
                have ho3 : o3.length ≤ 3000000000 := by
                  have e1 := congrArg List.length HO3.out
                  have e2 := HPL.out
                  have e3 := HTL.out
                  rw [List.length_append, List.length_append, List.length_map, List.length_take] at e1
                  omega
                generalize room[i]'hlt2.out = x at g0 g1 hu1 hNX
                obtain ⟨nm, u⟩ := x
                dsimp only at g0 g1 hu1 hNX
                have kst := st_new Tryd.prog wr nm u (.string ⟨#[]⟩) hu1 69
                go_upto_region 11 with fail
                obtain ⟨wa, hwa⟩ : ∃ x, x = wr.alloc (.cells #[.string nm, u] 69) := ⟨_, rfl⟩
                have HN := Lib.hid (new1 wr #[.string nm, u] 69)
                have HZA := Lib.hid (alloc_sz wr (.cells #[.string nm, u] 69))
                rw [← hwa] at HN HZA ⊢
                clear hwa kst g0 g1 hu1
                obtain ⟨z0, -⟩ := cells2 HN.out.1
                have HOA := Lib.hid (own_below HOW3.out HN.out.2)
                have HWA := Lib.hid (HW3.out.trans (HN.out.2.mono hzr3))
                have hza := HWA.out.size
                go_wp2_with (first | ((at_builtin; refine wpList_append_own _ rfl (.tmp 36) (.tmp 39) 22 rfl wc.heap.size 9 i0 _ 1 16 Tryd.underlying22 hi hz0 hz1 hz2 rfl (by decide) v2 (o3.length) (vs (o3)) rfl (HOA.out.alloc _) ⟨wa.heap.size, 0, none⟩ 1 1 [.string nm] rfl rfl (by intro j u hj; cases j with | zero => (simp at hj; subst hj; simp [Addr.add]) | succ => simp at hj) (by intro u hu; simp at hu; subst hu; rfl) (by (try simp only [List.length_append, List.length_cons, List.length_nil]); unfold maxLen; omega) (by (try simp only [List.length_append, List.length_cons, List.length_nil]); omega) (by have := (HWA.out).size; rw [alloc_size]; omega) ?_; intro v4 w4 hown hg _; have HO4 := Lib.hid (push_row hown); have HW4 := Lib.hid (push_below HWA.out HOA.out hg); clear hown hg)))
                exact ⟨⟨_, i + 1, o3 ++ [nm], rfl, by omega, by go_num, Lib.hid hNX.out.symm, Lib.hid (by rw [List.length_append]; exact HO4.out), HW4⟩, by simp [intOf]; omega⟩
              · obtain rfl : i = L := by omega
                go_wp2_with fail
                exact ⟨⟨_, r + 1, o3, rfl, by omega, by go_num, Lib.hid (by rw [HO3.out, HNS.out, List.take_of_length_le (l := room) (by rw [← HL.out]; exact Nat.le_refl _), List.append_assoc]), HOW3, HW3⟩, by simp [intOf]; omega⟩
          · obtain rfl : r = n := by omega
            have hup := Lib.hid (show o2 = m.upto (j + 1) by rw [HO2.out, upto_step m j hlt, List.take_of_length_le (l := m.tb j) (by rw [← HNN.out]; exact Nat.le_refl _)])
            clear hc
            go_wp2_with fail
            exact ⟨⟨_, j + 1, o2, rfl, by omega, by go_num, hup, HOW2, HW2⟩, by simp [intOf]; omega⟩
      · obtain rfl : j = 2 := by omega
        obtain rfl : o = m.names := by rw [HO.out, upto_two]
        have hln : m.names.length ≤ 1000000000 := by
          have h1 := HI.out.count
          have h2 := HI.out.mK
          unfold Dm.names; rw [List.length_map]; omega
        have HS := Lib.hid (sort_is wc.heap.size _ v0 m.names wr HOW.out (by omega))
        obtain ⟨A, c, rfl⟩ := own_slice HOW.out
        have hls := srt_len m.names
        clear HI HN0 HN1 HT0 HT1 hln
        go_wp2_with (go_at_call 37; refine Calls.mono HS.out ?_; rintro e w5 ⟨rfl, ho5, hb5⟩)
        go_ret
        rw [← hls] at ho5
        exact ⟨A, c, by rw [hls]; rfl, (own_rd ho5).1, HW0.out.trans ((HW.out.trans hb5).mono hzw)⟩
/-- dict.Names -/
theorem namesI_is (B g gn go K : Nat) (ow : Ow) (m : Dm) (nv ov : List Value) (w : World) (h : DR w B 75 81 80 g ow m gn go nv ov) (hi : Inv K m) (hK : K ≤ 1000000000) :
    Calls Tryd.prog 28 #[.pointer (some ⟨g, 0, none⟩)] w fun e w' => ∃ A c, e = .returned (.slice A (srt m.names).length c) ∧ Rd w' A (srt m.names) ∧ Below w.heap.size w w' := by
  obtain ⟨q0, q1, -, -⟩ := cells4 h.blk
  have HD := Lib.hid h
  have HI := Lib.hid hi
  obtain ⟨A0, n0, e0, hn0, ht0⟩ := h.table 0
  obtain ⟨A1, n1, e1, hn1, ht1⟩ := h.table 1
  have q0' : w.cell? ⟨g, 0, none⟩ = some (.slice A0 n0 n0) := by rw [q0]; exact congrArg some e0
  have q1' : w.cell? ⟨g, 1, none⟩ = some (.slice A1 n1 n1) := by rw [q1]; exact congrArg some e1
  have HT0 := Lib.hid ht0
  have HT1 := Lib.hid ht1
  have HN0 := Lib.hid hn0
  have HN1 := Lib.hid hn1
  have HN := Lib.hid (new1 w.drew #[.slice A0 n0 n0, .slice A1 n1 n1] 73)
  clear h hi q0 q1 e0 e1 hn0 hn1 ht0 ht1
  go_enter Tryd.func28, Tryd.ntmps28
  go_upto_region 2 with fail
  go_cut [18, 19, 20] (fun s18 s19 s20 wx => s18 = .slice (some ⟨w.heap.size, 0, none⟩) 2 2 ∧ s19 = .int .i64 2 ∧ s20 = .int .i64 0 ∧ RowKit.Hid (wx.heap[w.heap.size]? = some (.cells #[.slice A0 n0 n0, .slice A1 n1 n1] 73 (0, 0))) ∧ RowKit.Hid (Below w.heap.size w wx))
  case first =>
    go_region_held3 (fun w' => w'.cell? ⟨g, 0, none⟩ = some (.slice A0 n0 n0) ∧ w'.cell? ⟨g, 1, none⟩ = some (.slice A1 n1 n1)) (first | exact ⟨q0', q1'⟩ | exact ⟨cell_below (new1 _ _ _).2 q0', cell_below (new1 _ _ _).2 q1'⟩ | (refine ⟨by go_keep, by go_keep⟩)) (fail)
    all_goals
      go_wp2_with fail
      go_meet
      exact ⟨rfl, rfl, rfl, Lib.hid (by have := HN.out.1; exact this), Lib.hid (by ((repeat (first | exact Below.refl _ _ | (refine Below.drew ?_) | (refine Go.below_drewN ?_ _) | (refine Below.alloc ?_ (by first | (simp; done) | omega | (simp; omega)) _) | (refine Below.setCell ?_ (by first | (simp; done) | omega | (simp; omega)) _) | (refine Below.trans ?_ (Below.mono (by assumption) (by first | (simp; done) | omega | (simp; omega)))))); done))⟩
  case rest =>
    obtain ⟨rfl, rfl, rfl, HB0, HW0⟩ := hcut
    have hzw := HW0.out.size
    have hzb := lt_of_blk HB0.out
    clear q0' q1' HN
    obtain ⟨i0, hi, hz0, hz1, hz2⟩ := info_parts info9
    go_wp2_with fail
    go_loopw [3, 20] (fun s3 s20 wr => ∃ (v0 : Value) (j : Nat) (o : List ByteArray), v0 = s3 ∧ j ≤ 2 ∧ s20 = .int .i64 j ∧ RowKit.Hid (o = m.upto j) ∧ RowKit.Hid (wr.ownsRow wc.heap.size 9 1 s3 o.length (vs o)) ∧ RowKit.Hid (Below wc.heap.size wc wr)) (fun _ s20 _ => 2 - (intOf s20).toNat)
    case atStart => exact ⟨_, 0, [], rfl, Nat.zero_le _, rfl, Lib.hid rfl, Lib.hid (World.ownsRow_nil _ _ _ _), Lib.hid (Below.refl _ _)⟩
    case round =>
      obtain ⟨v0, j, o, rfl, hj2, rfl, HO, HOW, HW⟩ := hrel
      have hzr := HW.out.size
      by_cases hlt : j < 2
      · have hjI : (j : Int) < 2 := by omega
        have hC : ∃ A n, wr.cell? ⟨w.heap.size, j, none⟩ = some (.slice A n n) ∧ n = (m.tb j).length ∧ RowKit.Hid (∀ r room, (m.tb j)[r]? = some room → ∃ b A2 c, A = some ⟨b, 0, none⟩ ∧ w.cell? ⟨b, r, none⟩ = some (.slice A2 room.length c) ∧ RdI w A2 room) := by
          obtain ⟨y0, y1⟩ := cells2 (keep_blk HW.out HB0.out)
          rcases (show j = 0 ∨ j = 1 by omega) with rfl | rfl
          · exact ⟨A0, n0, y0, HN0.out, HT0⟩
          · exact ⟨A1, n1, y1, HN1.out, HT1⟩
        obtain ⟨A, n, hc, hn, HT⟩ := hC
        have hnK : n ≤ 3000000000 := by have := HI.out.tbK j; omega
        have HNN := Lib.hid hn
        have HTL := Lib.hid (tb_len HI.out j hlt)
        have hol := Lib.hid (show o.length = (m.upto j).length by rw [HO.out])
        clear hn HT0 HT1 HN0 HN1
        go_wp2_with fail
        go_loopw [3, 26] (fun s3 s26 wr2 => ∃ (v1 : Value) (r : Nat) (o2 : List ByteArray), v1 = s3 ∧ r ≤ n ∧ s26 = .int .i64 r ∧ RowKit.Hid (o2 = m.upto j ++ nms ((m.tb j).take r)) ∧ RowKit.Hid (wr2.ownsRow wc.heap.size 9 1 s3 o2.length (vs o2)) ∧ RowKit.Hid (Below wc.heap.size wc wr2)) (fun _ s26 _ => n - (intOf s26).toNat)
        case atStart => exact ⟨_, 0, o, rfl, Nat.zero_le _, rfl, Lib.hid (by rw [HO.out]; simp [nms]), HOW, HW⟩
        case round =>
          obtain ⟨v1, r, o2, rfl, hrn, rfl, HO2, HOW2, HW2⟩ := hrel
          have hzr2 := HW2.out.size
          by_cases hlr : r < n
          · have hrI : (r : Int) < (n : Int) := by omega
            obtain ⟨room, hroom⟩ : ∃ room, (m.tb j)[r]? = some room := ⟨_, List.getElem?_eq_getElem (by rw [← HNN.out]; exact hlr)⟩
            obtain ⟨b, A2, c2, rfl, hcr, hrd⟩ := HT.out r room hroom
            have hcr2 := cell_below (HW0.out.trans (HW2.out.mono hzw)) hcr
            have HRD := Lib.hid hrd
            obtain ⟨L, hL⟩ : ∃ L, L = room.length := ⟨_, rfl⟩
            rw [← hL] at hcr2
            have HL := Lib.hid hL
            have HRM := Lib.hid hroom
            have HPL := Lib.hid (part_len _ _ _ hroom)
            have HONE := Lib.hid (HI.out.tbOne hroom)
            have HNS := Lib.hid (nms_step hroom)
            have hLK : L ≤ 1000000000 := by have := HPL.out; have := HTL.out; omega
            clear hcr hrd hL hroom hc
            go_wp2_with fail
            go_loopw [3, 32] (fun s3 s32 wr3 => ∃ (v2 : Value) (i : Nat) (o3 : List ByteArray), v2 = s3 ∧ i ≤ L ∧ s32 = .int .i64 i ∧ RowKit.Hid (o3 = m.upto j ++ nms ((m.tb j).take r) ++ (room.take i).map (·.1)) ∧ RowKit.Hid (wr3.ownsRow wc.heap.size 9 1 s3 o3.length (vs o3)) ∧ RowKit.Hid (Below wc.heap.size wc wr3)) (fun _ s32 _ => L - (intOf s32).toNat)
            case atStart => exact ⟨_, 0, o2, rfl, Nat.zero_le _, rfl, Lib.hid (by rw [HO2.out]; simp), HOW2, HW2⟩
            case round =>
              obtain ⟨v2, i, o3, rfl, hil, rfl, HO3, HOW3, HW3⟩ := hrel
              have hzr3 := HW3.out.size
              by_cases hli : i < L
              · have hiI : (i : Int) < (L : Int) := by omega
                have hlt2 := Lib.hid (show i < room.length by rw [← HL.out]; exact hli)
                obtain ⟨b1, o1, rfl⟩ := HRD.out.addr (by have := hlt2.out; omega)
                obtain ⟨g0, g1⟩ := (HRD.out.below (HW0.out.trans (HW3.out.mono hzw))).cell hlt2.out
                have hu1 := HONE.out _ (List.getElem_mem hlt2.out)
                have hNX := Lib.hid (show m.upto j ++ nms ((m.tb j).take r) ++ (room.take (i + 1)).map (·.1) = o3 ++ [(room[i]'hlt2.out).1] by rw [HO3.out, List.take_succ_eq_append_getElem hlt2.out, List.map_append, ← List.append_assoc]; rfl)
                have ho3 : o3.length ≤ 3000000000 := by
                  have e1 := congrArg List.length HO3.out
                  have e2 := HPL.out
                  have e3 := HTL.out
                  rw [List.length_append, List.length_append, List.length_map, List.length_take] at e1
                  omega
                generalize room[i]'hlt2.out = x at g0 g1 hu1 hNX
                obtain ⟨nm, u⟩ := x
                dsimp only at g0 g1 hu1 hNX
                have kst := st_new Tryd.prog wr nm u (.int .i64 0) hu1 80
                go_upto_region 11 with fail
                obtain ⟨wa, hwa⟩ : ∃ x, x = wr.alloc (.cells #[.string nm, u] 80) := ⟨_, rfl⟩
                have HN := Lib.hid (new1 wr #[.string nm, u] 80)
                have HZA := Lib.hid (alloc_sz wr (.cells #[.string nm, u] 80))
                rw [← hwa] at HN HZA ⊢
                clear hwa kst g0 g1 hu1
                obtain ⟨z0, -⟩ := cells2 HN.out.1
                have HOA := Lib.hid (own_below HOW3.out HN.out.2)
                have HWA := Lib.hid (HW3.out.trans (HN.out.2.mono hzr3))
                have hza := HWA.out.size
                go_wp2_with (first | ((at_builtin; refine wpList_append_own _ rfl (.tmp 36) (.tmp 39) 22 rfl wc.heap.size 9 i0 _ 1 16 Tryd.underlying22 hi hz0 hz1 hz2 rfl (by decide) v2 (o3.length) (vs (o3)) rfl (HOA.out.alloc _) ⟨wa.heap.size, 0, none⟩ 1 1 [.string nm] rfl rfl (by intro j u hj; cases j with | zero => (simp at hj; subst hj; simp [Addr.add]) | succ => simp at hj) (by intro u hu; simp at hu; subst hu; rfl) (by (try simp only [List.length_append, List.length_cons, List.length_nil]); unfold maxLen; omega) (by (try simp only [List.length_append, List.length_cons, List.length_nil]); omega) (by have := (HWA.out).size; rw [alloc_size]; omega) ?_; intro v4 w4 hown hg _; have HO4 := Lib.hid (push_row hown); have HW4 := Lib.hid (push_below HWA.out HOA.out hg); clear hown hg)))
                exact ⟨⟨_, i + 1, o3 ++ [nm], rfl, by omega, by go_num, Lib.hid hNX.out.symm, Lib.hid (by rw [List.length_append]; exact HO4.out), HW4⟩, by simp [intOf]; omega⟩
              · obtain rfl : i = L := by omega
                go_wp2_with fail
                exact ⟨⟨_, r + 1, o3, rfl, by omega, by go_num, Lib.hid (by rw [HO3.out, HNS.out, List.take_of_length_le (l := room) (by rw [← HL.out]; exact Nat.le_refl _), List.append_assoc]), HOW3, HW3⟩, by simp [intOf]; omega⟩
          · obtain rfl : r = n := by omega
            have hup := Lib.hid (show o2 = m.upto (j + 1) by rw [HO2.out, upto_step m j hlt, List.take_of_length_le (l := m.tb j) (by rw [← HNN.out]; exact Nat.le_refl _)])
            clear hc
            go_wp2_with fail
            exact ⟨⟨_, j + 1, o2, rfl, by omega, by go_num, hup, HOW2, HW2⟩, by simp [intOf]; omega⟩
      · obtain rfl : j = 2 := by omega
        obtain rfl : o = m.names := by rw [HO.out, upto_two]
        have hln : m.names.length ≤ 1000000000 := by
          have h1 := HI.out.count
          have h2 := HI.out.mK
          unfold Dm.names; rw [List.length_map]; omega
        have HS := Lib.hid (sort_is wc.heap.size _ v0 m.names wr HOW.out (by omega))
        obtain ⟨A, c, rfl⟩ := own_slice HOW.out
        have hls := srt_len m.names
        clear HI HN0 HN1 HT0 HT1 hln
        go_wp2_with (go_at_call 37; refine Calls.mono HS.out ?_; rintro e w5 ⟨rfl, ho5, hb5⟩)
        go_ret
        rw [← hls] at ho5
        exact ⟨A, c, by rw [hls]; rfl, (own_rd ho5).1, HW0.out.trans ((HW.out.trans hb5).mono hzw)⟩
end Go.Proofs.YtfdcacjfngjmdaaDoor.T
