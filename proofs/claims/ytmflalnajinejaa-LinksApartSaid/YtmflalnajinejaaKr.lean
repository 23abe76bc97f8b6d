import Derived.Deep.DeepCutAuto
import Derived.Laws.OwnMore
import Derived.OwnWalk
import Derived.Lib.AppendStr
import Derived.Lib.SliceRun
import Derived.Lib.SmallJoins
import Derived.IntWalk
import Derived.WalkMore
import Derived.Lib.OthersKept
import Derived.Deep.LoopGhost
import Derived.Deep.RegionLaw
import Derived.Deep.AppendLies
import Derived.Test.YtmflalnajinejaaProg
import Derived.Test.YtmflalnajinejaaMem
import Derived.Test.YtmflalnajinejaaBlk
import Derived.Test.YtmflalnajinejaaAp
import Derived.Test.YtmflalnajinejaaKa
import Derived.Test.YtmflalnajinejaaKd
import Derived.Test.YtmflalnajinejaaKh
import Derived.Test.YtmflalnajinejaaKi
import Derived.Test.YtmflalnajinejaaKj
import Derived.Test.YtmflalnajinejaaKk
import Derived.Test.YtmflalnajinejaaKl
import Derived.Test.YtmflalnajinejaaKm
import Derived.Test.YtmflalnajinejaaKn
import Derived.Test.YtmflalnajinejaaKq
import Derived.Test.YtmflalnajinejaaOwn
import Derived.WalkKit
import Derived.Outline
import Derived.WalkLawsBesides
import Derived.Deep.QuietTactic
import Derived.BigQuiet
import Derived.Lib.Hide
import Derived.Handy
import Derived.Deep.RegionHeld3
import Derived.Deep.DrawnRows
import Derived.KernelRfl
import Derived.Great.Walk
import Derived.Test.YtmflalnajinejaaOwn
namespace Go.Proofs.Ytmflalnajinejaa.T
open Go Go.RowKit Go.Sort Mem Own
set_option maxRecDepth 100000
set_option maxHeartbeats 1000000
set_option linter.unusedVariables false
set_option linter.unusedSimpArgs false

open Go.WideMaps Go.Maps
/-- The rows of a letter lie from block B on. -/
def LtF (B : Nat) (w : World) (x : Lt) (o : Wh) : Prop := ∀ w', KeepsFrom B w w' → LtO w' x o
theorem LtF.keeps {B : Nat} {w w' : World} {x : Lt} {o : Wh} (h : LtF B w x o) (hk : KeepsFrom B w w') : LtF B w' x o := fun w'' h' => h w'' (hk.trans h')
theorem LtF.mono {B B' : Nat} {w : World} {x : Lt} {o : Wh} (h : LtF B' w x o) (hb : B ≤ B') : LtF B w x o := fun w' h' => h w' (h'.mono hb)
theorem LtF.o {B : Nat} {w : World} {x : Lt} {o : Wh} (h : LtF B w x o) : LtO w x o := h w (KeepsFrom.refl _ _)
theorem rd_pre {A : Option Addr} {l : List ByteArray} {w : World} (hr : Rd w A l) : ∀ j, j < l.length * 1 → ∃ a u, A = some a ∧ w.cell? (a.add j) = some u ∧ u.oneCell' = true := by
  intro j hj
  obtain ⟨b, off, rfl⟩ := hr.addr (by omega)
  exact ⟨_, _, rfl, by rw [addr_add]; exact hr.cell (by omega), rfl⟩
theorem cl_args {A : Option Addr} {l : List ByteArray} {W w' : World} {e : Ending} {n : Nat} (hn : l.length = n) (hr : Rd W A l) (h : Cl 9 1 A n W e w') :
    ∃ A' c', e = .returned (.slice A' n c') ∧ (∀ w'', KeepsFrom W.heap.size w' w'' → Rd w'' A' l) ∧ Below W.heap.size W w' := by
  obtain ⟨h1, h2⟩ := h
  rcases h2 with ⟨rfl, rfl, rfl⟩ | ⟨g, cap, cur, hA, rfl, h3, h4, h5, h6, h7, h8⟩
  · exact ⟨none, 0, rfl, fun _ _ => .inl (List.eq_nil_of_length_eq_zero hn), h1⟩
  · refine ⟨_, _, rfl, fun w'' hk => .inr ⟨g, 0, rfl, fun i x hx => hk _ _ h3 ?_⟩, h1⟩
    have hi := (List.getElem?_eq_some_iff.1 hx).1
    obtain ⟨b, off, rfl⟩ := hr.addr (by omega)
    rw [of_blk h6, Nat.zero_add, ← h8 i (by omega)]
    show W.cell? ((⟨b, off, none⟩ : Addr).add i) = _
    rw [addr_add, hr.cell hi, (List.getElem?_eq_some_iff.1 hx).2]
theorem args_is (A : Option Addr) (l : List ByteArray) (c : Nat) (w : World) (hr : Rd w A l) (hn : l.length ≤ 1000000) :
    Calls Try.prog 23 #[.slice A l.length c] w fun e w' => ∃ A' c', e = .returned (.slice A' l.length c') ∧ (∀ w'', KeepsFrom w.heap.size w' w'' → Rd w'' A' l) ∧ Below w.heap.size w w' := by
  refine (clone23_is A l.length c w (rd_pre hr) hn ?_).mono fun e w' h => cl_args rfl hr h
  intro hA
  rcases hr with h | ⟨b, off, e, _⟩
  · rw [h]; rfl
  · rw [hA] at e; cases e
theorem queue_add {w w' : World} {m : En → Option Value} {n : Nat} {Q : En → List Lt} (h : Queues w m n Q) (hk : Keeps w w') {x : En} {l : Lt} {g c N : Nat} (hN : N = (Q x).length) (hc : N + 1 ≤ c) (hcm : c ≤ maxLen)
    (hr : RdL w' (some ⟨g, 0, none⟩) (Q x ++ [l])) : Queues w' (upd m x (some (.slice (some ⟨g, 0, none⟩) (N + 1) c))) (n + 1) (qadd Q x l) := by
  intro y
  obtain ⟨h1, h2⟩ := (h.keeps hk) y
  by_cases e : y = x
  · subst e
    have e2 : qadd Q y l y = Q y ++ [l] := by simp [qadd]
    have e3 : upd m y (some (.slice (some ⟨g, 0, none⟩) (N + 1) c)) y = some (.slice (some ⟨g, 0, none⟩) (N + 1) c) := by simp [upd]
    rw [e2, e3]
    have hl : (Q y ++ [l]).length = N + 1 := by rw [List.length_append, ← hN]; rfl
    rw [hl]
    exact ⟨by omega, .inr ⟨_, c, rfl, by simp, hc, hcm, hr⟩⟩
  · have e2 : qadd Q x l y = Q y := by simp [qadd, e]
    have e3 : upd m x (some (.slice (some ⟨g, 0, none⟩) (N + 1) c)) y = m y := by simp [upd, e]
    rw [e2, e3]
    exact ⟨by omega, h2⟩
theorem send_end {w W3 WA w4 w5 : World} {g b n N c4 g4 : Nat} {Q : En → List Lt} {x : En} {l : Lt} {o' : Wh} (hL : LK w g b n Q) (hB3 : Below w.heap.size w W3) (hBA : Below W3.heap.size W3 WA) (hB4 : Below WA.heap.size WA w4) (hN : N = (Q x).length)
    (hP : ∃ m, Queues WA m n Q ∧ LM w5 b (n + 1) (upd m x (some (.slice (some ⟨g4, 0, none⟩) (N + 1) c4))) ∧ w4.mapTurned w5 b) (hn4 : N + 1 ≤ c4) (hc4 : c4 ≤ maxLen) (hr4 : RdL w4 (some ⟨g4, 0, none⟩) (Q x ++ [l])) (hg4 : WA.heap.size ≤ g4)
    (hl4 : ∀ j u, (ltC l o')[j]? = some u → w4.cell? ⟨g4, N * 13 + j, none⟩ = some u) (hF : LtF (w.heap.size + 1) W3 l o') :
    LK w5 g b (n + 1) (qadd Q x l) ∧ w.grownBy w5 (some b) ∧ ((∀ z, Q z = []) → ∀ w'', KeepsFrom w.heap.size w5 w'' → w''.heap[b]? = w5.heap[b]? → w''.cell? ⟨g, 0, none⟩ = some (.map (some b)) → LK w'' g b (n + 1) (qadd Q x l)) := by
  obtain ⟨m, hQ, hLM, hT⟩ := hP
  have hz3 := hB3.size
  have hzA := hBA.size
  have hB : Below w.heap.size w w4 := (hB3.trans (hBA.mono hz3)).trans (hB4.mono (Nat.le_trans hz3 hzA))
  have g1 : w.grownBy w4 (some b) := ⟨hB.os, hB.tape, hB.output, hB.size, fun k hk _ => hB.block k hk⟩
  have g2 : w.grownBy w5 (some b) := World.grownBy.andThen g1 hT.grown (fun j e => .inr e)
  have hk := hL.keeps g2
  have k45 : Keeps w4 w5 := turn_keeps hT
  have kA5 : Keeps WA w5 := (keeps_below hB4).trans k45
  refine ⟨⟨hk _ _ hL.cell, _, hLM, queue_add hQ kA5 hN hn4 hc4 (hr4.keeps k45)⟩, g2, fun h0 w'' hkf hbb hcc => ?_⟩
  have hLM' : LM w'' b (n + 1) (upd m x (some (.slice (some ⟨g4, 0, none⟩) (N + 1) c4))) := by
    obtain ⟨D, ⟨es, ck, h1, h2⟩, h3⟩ := hLM
    exact ⟨D, ⟨es, ck, by rw [hbb]; exact h1, h2⟩, h3⟩
  have hN0 : N = 0 := by rw [hN, h0 x]; rfl
  subst hN0
  have hO : LtO w'' l o' := hF w'' ((((keeps_below hBA).trans kA5).fromAt _).trans (hkf.mono (Nat.le_succ _)))
  have hrow : RdL w'' (some ⟨g4, 0, none⟩) [l] := by
    refine .inr ⟨g4, 0, rfl, fun i hi => ?_⟩
    have hi0 : i = 0 := by simp at hi; omega
    subst hi0
    refine ⟨o', hO, fun j u e => hkf _ _ (by show w.heap.size ≤ g4; omega) (k45 _ _ ?_)⟩
    have := hl4 j u e
    simpa using this
  have hmn : ∀ y, m y = none := fun y => by
    rcases (hQ y).2 with ⟨h1, _⟩ | ⟨A, c, _, h2, _⟩
    · exact h1
    · exact absurd (h0 y) h2
  refine ⟨hcc, _, hLM', fun y => ?_⟩
  by_cases e : y = x
  · subst e
    have e2 : qadd Q y l y = [l] := by simp [qadd, h0 y]
    have e3 : upd m y (some (.slice (some ⟨g4, 0, none⟩) (0 + 1) c4)) y = some (.slice (some ⟨g4, 0, none⟩) 1 c4) := by simp [upd]
    rw [e2, e3]
    exact ⟨by simp, .inr ⟨_, c4, rfl, by simp, by simpa using hn4, hc4, hrow⟩⟩
  · have e2 : qadd Q x l y = [] := by simp [qadd, e, h0 y]
    have e3 : upd m x (some (.slice (some ⟨g4, 0, none⟩) (0 + 1) c4)) y = none := by simp [upd, e, hmn y]
    rw [e2, e3]
    exact ⟨by simp, .inl ⟨rfl, rfl⟩⟩
end Go.Proofs.Ytmflalnajinejaa.T
