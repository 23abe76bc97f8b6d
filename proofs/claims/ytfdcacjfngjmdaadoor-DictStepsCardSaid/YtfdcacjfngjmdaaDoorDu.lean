import Derived.Deep.DeepCutAuto
import Derived.Laws.OwnMore
import Derived.OwnWalk
import Derived.Lib.AppendStr
import Derived.Lib.SliceRun
import Derived.Lib.SmallJoins
import Derived.IntWalk
import Derived.WalkMore
import Derived.Lib.OthersKept
import Derived.Deep.LoopGhost
import Derived.Deep.RegionLaw
import Derived.Deep.AppendLies
import Derived.Test.YtfdcacjfngjmdaaDoorProg
import Derived.Test.YtfdcacjfngjmdaaDoorMem
import Derived.Test.YtfdcacjfngjmdaaDoorBlk
import Derived.Test.YtfdcacjfngjmdaaDoorAp
import Derived.Test.YtfdcacjfngjmdaaDoorDs
import Derived.Test.YtfdcacjfngjmdaaDoorDt
import Derived.Test.YtfdcacjfngjmdaaDoorDp
import Derived.Lib.ConvBytes
import Derived.WalkKit
import Derived.Outline
import Derived.WalkLawsBesides
import Derived.Deep.QuietTactic
import Derived.BigQuiet
import Derived.Lib.Hide
import Derived.Handy
import Derived.Deep.RegionHeld3
import Derived.Deep.DrawnRows
import Derived.KernelRfl
import Derived.Great.Walk
import Derived.Test.YtfdcacjfngjmdaaDoorOwn
namespace Go.Proofs.YtfdcacjfngjmdaaDoor.T
open Go Go.RowKit Go.Sort Mem Own
set_option maxRecDepth 100000
set_option maxHeartbeats 1000000
set_option linter.unusedVariables false
set_option linter.unusedSimpArgs false

/-- The names of DictMany. -/
def nmm (i : Nat) : ByteArray := ⟨#[UInt8.ofNat (i % 256), UInt8.ofNat (i / 256 % 256), 120]⟩
theorem conv3 (w : World) (x y z : UInt8) : (convert 33 9 (.slice (some ⟨w.heap.size, 0, none⟩) 3 3)).run Tryd.prog (w.alloc (.cells #[.int .u8 (x.toNat : Int), .int .u8 (y.toNat : Int), .int .u8 (z.toNat : Int)] 5)) = .ok (.string ⟨#[x, y, z]⟩) (w.alloc (.cells #[.int .u8 (x.toNat : Int), .int .u8 (y.toNat : Int), .int .u8 (z.toNat : Int)] 5)) := by
  refine run_convert_bytes_back (P := Tryd.prog) (w.alloc (.cells #[.int .u8 (x.toNat : Int), .int .u8 (y.toNat : Int), .int .u8 (z.toNat : Int)] 5)) 33 9 5 ⟨w.heap.size, 0, none⟩ 3 [x, y, z] Tryd.underlying33 Tryd.underlying5 Tryd.underlying9 fun j hj => ?_
  have h := of_blk (heap_alloc_new w (.cells #[.int .u8 (x.toNat : Int), .int .u8 (y.toNat : Int), .int .u8 (z.toNat : Int)] 5)) j
  have hj3 : j < 3 := by simpa using hj
  rcases (show j = 0 ∨ j = 1 ∨ j = 2 by omega) with rfl | rfl | rfl <;> exact h
theorem nm_is (i : Nat) (hi : i < 65536) (w : World) : Calls Tryd.prog 14 #[.int .i64 (i : Int)] w fun e w' => e = .returned (.string (nmm i)) ∧ Below w.heap.size w w' := by
  obtain ⟨x, hx⟩ : ∃ x, x = UInt8.ofNat (i % 256) := ⟨_, rfl⟩
  obtain ⟨y, hy⟩ : ∃ y, y = UInt8.ofNat (i / 256 % 256) := ⟨_, rfl⟩
  have hxn : x.toNat = i % 256 := by rw [hx]; simp [UInt8.toNat_ofNat']
  have hyn : y.toNat = i / 256 % 256 := by rw [hy]; simp [UInt8.toNat_ofNat']
  have hnm : nmm i = ⟨#[x, y, 120]⟩ := by unfold nmm; rw [hx, hy]
  rw [hnm]
  have ex : (x.toNat : Int) = (i : Int) % 256 := by omega
  have ey : (y.toNat : Int) = (i : Int) / 256 := by omega
  have kc : (convert 33 9 (.slice (some ⟨w.heap.size, 0, none⟩) 3 3)).run Tryd.prog (w.alloc (.cells #[.int .u8 ((i : Int) % 256), .int .u8 ((i : Int) / 256), .int .u8 120] 5)) = .ok (.string ⟨#[x, y, 120]⟩) (w.alloc (.cells #[.int .u8 ((i : Int) % 256), .int .u8 ((i : Int) / 256), .int .u8 120] 5)) := by rw [← ex, ← ey]; exact conv3 w x y 120
  clear hx hy hnm ex ey hxn hyn
  go_enter Tryd.func14, Tryd.ntmps14
  go_wp2
  go_ret
  exact ⟨rfl, (by ((repeat (first | exact Below.refl _ _ | (refine Below.drew ?_) | (refine Go.below_drewN ?_ _) | (refine Below.alloc ?_ (by first | (simp; done) | omega | (simp; omega)) _) | (refine Below.setCell ?_ (by first | (simp; done) | omega | (simp; omega)) _) | (refine Below.trans ?_ (Below.mono (by assumption) (by first | (simp; done) | omega | (simp; omega)))))); done))⟩
theorem nmm_inj {i j : Nat} (hi : i < 65536) (hj : j < 65536) (h : (nmm i).toList = (nmm j).toList) : i = j := by
  have h1 := ba_inj h
  unfold nmm at h1
  injection h1 with h1
  have e1 := congrArg (fun a : Array UInt8 => (a[0]?).map (·.toNat)) h1
  have e2 := congrArg (fun a : Array UInt8 => (a[1]?).map (·.toNat)) h1
  simp at e1 e2
  omega
/-- Behind so many Puts. -/
def mp : Nat → Dm
  | 0 => Dm.new
  | i + 1 => (mp i).step.put (nmm i) (.int .i64 (i : Int))
def md (M : Nat) : Nat → Dm
  | 0 => mp M
  | j + 1 => (md M j).step.del (nmm j)
def mr (q : Dm) : Nat → Dm
  | 0 => q
  | r + 1 => (mr q r).step.step.del ⟨#[]⟩
theorem nmm_size (i : Nat) : (nmm i).size ≤ maxLen := by show 3 ≤ maxLen; decide
structure Mp (M i : Nat) (m : Dm) : Prop where
  inv : Inv M m
  pw : Pw m
  many : m.many = i
  yes : ∀ j, j < i → m.get (nmm j) = some (.int .i64 (j : Int))
  no : ∀ j, i ≤ j → j < 65536 → m.get (nmm j) = none
theorem mp_is : ∀ i, i ≤ 3000 → Mp i i (mp i)
  | 0, _ => ⟨Inv.new, Pw.new, rfl, fun j hj => by omega, fun j _ _ => get_none fun x hx => by have hx : x ∈ Dm.new.all := hx; simp [Dm.all, Dm.new, List.replicate] at hx⟩
  | i + 1, h => by
    have ih := mp_is i (by omega)
    have hno : (mp i).step.has (nmm i) = false := by rw [has_get ih.inv.step, step_get ih.inv, ih.no i (Nat.le_refl _) (by omega)]; rfl
    obtain ⟨p1, p2⟩ := put_new ih.inv.step hno (v := .int .i64 (i : Int)) rfl (nmm_size i)
    have pg := put_new_get ih.inv.step hno (v := .int .i64 (i : Int)) rfl (nmm_size i)
    have hall : (mp i).step.all.length = i := by rw [(step_all ih.inv).length_eq, ← ih.inv.count, ih.many]
    refine ⟨p2, ih.pw.step.put _ _, ?_, fun j hj => ?_, fun j hj hj2 => ?_⟩
    · show ((mp i).step.put (nmm i) (.int .i64 (i : Int))).many = i + 1
      rw [p2.count, p1.length_eq, List.length_cons, hall]
    · show ((mp i).step.put (nmm i) (.int .i64 (i : Int))).get (nmm j) = _
      rw [pg]
      by_cases e : i = j
      · subst e; rw [if_pos rfl]
      · rw [if_neg (fun q => e (nmm_inj (by omega) (by omega) q)), step_get ih.inv]
        exact ih.yes j (by omega)
    · show ((mp i).step.put (nmm i) (.int .i64 (i : Int))).get (nmm j) = _
      rw [pg, if_neg (fun q => by have := nmm_inj (by omega) (by omega) q; omega), step_get ih.inv]
      exact ih.no j (by omega) hj2
theorem mp_has {i : Nat} (h : i ≤ 3000) : (mp i).step.has (nmm i) = false := by
  have ih := mp_is i h
  rw [has_get ih.inv.step, step_get ih.inv, ih.no i (Nat.le_refl _) (by omega)]; rfl
structure Md (M j : Nat) (m : Dm) : Prop where
  inv : Inv M m
  pw : Pw m
  many : m.many + j = M
  yes : ∀ k, j ≤ k → k < M → m.get (nmm k) = some (.int .i64 (k : Int))
theorem md_is {M : Nat} (hM : M ≤ 3000) : ∀ j, j ≤ M → Md M j (md M j)
  | 0, _ => ⟨(mp_is M hM).inv, (mp_is M hM).pw, (mp_is M hM).many, fun k _ hk => (mp_is M hM).yes k hk⟩
  | j + 1, h => by
    have ih := md_is hM j (by omega)
    have hh : (md M j).step.has (nmm j) = true := by rw [has_get ih.inv.step, step_get ih.inv, ih.yes j (Nat.le_refl _) (by omega)]; rfl
    refine ⟨(del_yes ih.inv.step ih.pw.step hh).2, ih.pw.step.del _, ?_, fun k hk hkM => ?_⟩
    · have e := del_many ih.inv.step ih.pw.step hh
      have e2 := (step_len (md M j)).2.2
      have e3 := ih.many
      show ((md M j).step.del (nmm j)).many + (j + 1) = M
      omega
    · show ((md M j).step.del (nmm j)).get (nmm k) = _
      rw [del_get ih.inv.step ih.pw.step, if_neg (fun q => by have := nmm_inj (by omega) (by omega) q; omega), step_get ih.inv]
      exact ih.yes k (by omega) hkM
theorem md_has {M j : Nat} (hM : M ≤ 3000) (h : j < M) : (md M j).step.has (nmm j) = true := by
  have ih := md_is hM j (by omega)
  rw [has_get ih.inv.step, step_get ih.inv, ih.yes j (Nat.le_refl _) h]; rfl
/-- How many of the elder rooms are left. -/
def Dm.left (m : Dm) : Nat := m.old.length - m.next
theorem left_nil {K : Nat} {m : Dm} (h : Inv K m) : m.left = 0 ↔ m.old.length = 0 := by
  unfold Dm.left
  constructor
  · intro h0
    by_cases ho : m.old = []
    · rw [ho]; rfl
    · have := h.nx ho; omega
  · intro h0; omega
theorem step_left {K : Nat} {m : Dm} (h : Inv K m) : m.step.left = m.left - 1 := by
  unfold Dm.step Dm.left
  by_cases ho : m.old.length = 0
  · rw [if_pos ho]; omega
  · rw [if_neg ho]
    by_cases he : m.next + 1 = m.old.length
    · rw [if_pos he]; simp; omega
    · rw [if_neg he]; simp; omega
/-- What the rounds use up. -/
def psi (L N : Nat) : Nat := L + L % 2 + 2 * N + (if L = 0 ∧ 4 < N then 2 else 0)
theorem round_psi {K : Nat} {m : Dm} (h : Inv K m) (hp : Pw m) (h0 : m.many = 0) : Inv K (m.step.step.del ⟨#[]⟩) ∧ Pw (m.step.step.del ⟨#[]⟩) ∧ (m.step.step.del ⟨#[]⟩).many = 0 ∧
    psi (m.step.step.del ⟨#[]⟩).left (m.step.step.del ⟨#[]⟩).now.length ≤ max 8 (psi m.left m.now.length - 2) := by
  have hi2 := h.step.step
  have hp2 := hp.step.step
  have hm2 : m.step.step.many = 0 := by rw [(step_len _).2.2, (step_len _).2.2, h0]
  have hl2 : m.step.step.left = m.left - 2 := by rw [step_left h.step, step_left h]; omega
  have hn2 : m.step.step.now.length = m.now.length := by rw [(step_len _).1, (step_len _).1]
  have hno : m.step.step.has ⟨#[]⟩ = false := by
    refine not_has hi2 fun x hx => ?_
    have e := hi2.count
    rw [hm2] at e
    have := List.length_pos_of_mem hx
    omega
  have hdel : m.step.step.del ⟨#[]⟩ = m.step.step.shr := by unfold Dm.del; rw [rem_no hno]
  rw [hdel]
  have hs := shr_all hi2 hp2
  refine ⟨hs.2.1, hp2.shr, by rw [hs.2.2, hm2], ?_⟩
  obtain ⟨k, hk⟩ := hp.now
  have hk1 : 1 ≤ 2 ^ k := Nat.one_le_two_pow
  have h8 : 4 < m.now.length → 8 ≤ m.now.length := by
    rw [hk]
    cases k with
    | zero => intro h; simp at h
    | succ k =>
      have : 1 ≤ 2 ^ k := Nat.one_le_two_pow
      rw [Nat.pow_succ]; omega
  have h4 : m.now.length % 4 = 0 := by rw [hk]; omega
  have hz := left_nil hi2
  rw [hl2] at hz
  unfold Dm.shr
  rw [hn2, hm2]
  by_cases hg : m.step.step.old.length = 0 ∧ 4 < m.now.length ∧ 4 * 0 < m.now.length
  · rw [if_pos hg]
    have hl : (⟨List.replicate (m.now.length / 2) [], m.step.step.now, m.step.step.next, 0⟩ : Dm).left = m.now.length := by
      unfold Dm.left
      dsimp only
      rw [hn2, hi2.nx0 (List.eq_nil_of_length_eq_zero hg.1)]; omega
    rw [hl]
    have hL := hz.2 hg.1
    have := h8 hg.2.1
    simp only [List.length_replicate]
    unfold psi
    rw [if_neg (by omega)]
    by_cases hL0 : m.left = 0
    · rw [if_pos ⟨hL0, hg.2.1⟩]; omega
    · rw [if_neg (fun q => hL0 q.1)]; omega
  · rw [if_neg hg, hl2, hn2]
    have hn4 := h.n4
    unfold psi
    by_cases hL : m.left - 2 = 0
    · have : ¬ 4 < m.now.length := fun q => hg ⟨hz.1 hL, q, by omega⟩
      rw [if_neg (fun q => this q.2), if_neg (fun q => this q.2)]
      omega
    · rw [if_neg (fun q => hL q.1), if_neg (fun q => by omega)]
      omega
theorem mr_is {K : Nat} {q : Dm} (h : Inv K q) (hp : Pw q) (h0 : q.many = 0) : ∀ r, Inv K (mr q r) ∧ Pw (mr q r) ∧ (mr q r).many = 0 ∧ psi (mr q r).left (mr q r).now.length ≤ max 8 (psi q.left q.now.length - 2 * r)
  | 0 => ⟨h, hp, h0, by show psi q.left q.now.length ≤ _; omega⟩
  | r + 1 => by
    obtain ⟨h1, h2, h3, h4⟩ := mr_is h hp h0 r
    obtain ⟨g1, g2, g3, g4⟩ := round_psi h1 h2 h3
    exact ⟨g1, g2, g3, by show psi ((mr q r).step.step.del ⟨#[]⟩).left ((mr q r).step.step.del ⟨#[]⟩).now.length ≤ _; omega⟩
theorem pow_small {n k : Nat} (h : n = 4 * 2 ^ k) (hn : n ≤ 6004) : n ≤ 4096 := by
  by_cases hk : k ≤ 10
  · have := Nat.pow_le_pow_right (show 0 < 2 by omega) hk
    omega
  · have := Nat.pow_le_pow_right (show 0 < 2 by omega) (show 11 ≤ k by omega)
    omega
/-- In the end the dict is small. -/
theorem mr_end {M : Nat} (hM : M ≤ 3000) : Inv M (mr (md M M) 8000) ∧ (mr (md M M) 8000).many = 0 ∧ (mr (md M M) 8000).now.length = 4 ∧ (mr (md M M) 8000).old.length = 0 ∧ (mr (md M M) 8000).next = 0 := by
  have hd := md_is hM M (Nat.le_refl _)
  have h0 : (md M M).many = 0 := by have := hd.many; omega
  obtain ⟨h1, h2, h3, h4⟩ := mr_is hd.inv hd.pw h0 8000
  have e1 : (md M M).now.length ≤ 4096 := by
    obtain ⟨k, hk⟩ := hd.pw.now
    exact pow_small hk (by have := hd.inv.nK; omega)
  have e2 : (md M M).old.length ≤ 4096 := by
    rcases hd.pw.old with e | ⟨k, hk⟩
    · omega
    · exact pow_small hk (by have := hd.inv.oK; omega)
  have e3 : psi (md M M).left (md M M).now.length ≤ 12300 := by
    have : (md M M).left ≤ 4096 := by unfold Dm.left; omega
    unfold psi
    split <;> omega
  have e4 : psi (mr (md M M) 8000).left (mr (md M M) 8000).now.length ≤ 8 := by omega
  have hn4 := h1.n4
  have hL : (mr (md M M) 8000).left = 0 := by unfold psi at e4; omega
  have hN : (mr (md M M) 8000).now.length = 4 := by unfold psi at e4; omega
  have hO := (left_nil h1).1 hL
  exact ⟨h1, h3, hN, hO, h1.nx0 (List.eq_nil_of_length_eq_zero hO)⟩
end Go.Proofs.YtfdcacjfngjmdaaDoor.T
