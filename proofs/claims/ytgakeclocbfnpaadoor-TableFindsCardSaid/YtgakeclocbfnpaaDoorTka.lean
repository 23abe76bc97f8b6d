import Derived.Test.YtgakeclocbfnpaaDoorProg
import Derived.Test.YtgakeclocbfnpaaDoorShelf
import Derived.Test.YtgakeclocbfnpaaDoorMem
import Derived.Test.YtgakeclocbfnpaaDoorTa
import Derived.Test.YtgakeclocbfnpaaDoorTa2
import Derived.Test.YtgakeclocbfnpaaDoorTb
import Derived.Test.YtgakeclocbfnpaaDoorTc
import Derived.Test.YtgakeclocbfnpaaDoorTd
import Derived.Test.YtgakeclocbfnpaaDoorTe
import Derived.Test.YtgakeclocbfnpaaDoorTf
import Derived.Test.YtgakeclocbfnpaaDoorTg
import Derived.Test.YtgakeclocbfnpaaDoorTh
import Derived.Test.YtgakeclocbfnpaaDoorTi
import Derived.Test.YtgakeclocbfnpaaDoorTja
import Derived.Test.YtgakeclocbfnpaaDoorTj
import Derived.WalkKit
import Derived.Outline
import Derived.WalkLawsBesides
import Derived.Deep.QuietTactic
import Derived.BigQuiet
import Derived.Lib.Hide
import Derived.Handy
import Derived.Deep.RegionHeld3
import Derived.Deep.DrawnRows
import Derived.KernelRfl
import Derived.Great.Walk
import Derived.Test.YtgakeclocbfnpaaDoorOwn
namespace Go.Proofs.YtgakeclocbfnpaaDoor.T
open Go Go.RowKit Mem Own
set_option maxRecDepth 100000
set_option maxHeartbeats 1000000
set_option linter.unusedVariables false
set_option linter.unusedSimpArgs false

theorem sp_ok1 : ∀ k, k < 48 → (0 ≤ (sp k).least ∧ (sp k).least ≤ 3 ∧ 0 ≤ (sp k).most ∧ (sp k).most ≤ 31 ∧ 0 ≤ (sp k).first ∧ (sp k).first ≤ 1 ∧ -1 ≤ (sp k).last ∧ (sp k).last ≤ 1 ∧ 0 ≤ (sp k).step ∧ (sp k).step ≤ 2) := by decide +kernel
theorem sp_ok2 : ∀ k, k < 48 → ((sp k).last < 0 → (sp k).first = 1) ∧ ((sp k).first ≠ 0 → 1 ≤ (sp k).step) ∧ ((sp k).first = 0 → (sp k).last = 0 ∧ (sp k).step = 0 ∧ (sp k).writes = false) := by decide +kernel
theorem sp_ok3 : ∀ k, k < 48 → (0 ≤ (sp k).last → (sp k).last = (sp k).first ∧ ((sp k).first = 1 → 1 ≤ (sp k).least ∧ (sp k).step = 1)) ∧ ((sp k).last < 0 → 1 ≤ (sp k).least ∧ ((sp k).step = 2 → 2 ≤ (sp k).least)) := by decide +kernel
structure SpOk (s : Sp) : Prop where
  le0 : 0 ≤ s.least
  le1 : s.least ≤ 3
  mo0 : 0 ≤ s.most
  mo1 : s.most ≤ 31
  fi0 : 0 ≤ s.first
  fi1 : s.first ≤ 1
  la0 : -1 ≤ s.last
  la1 : s.last ≤ 1
  st0 : 0 ≤ s.step
  st1 : s.step ≤ 2
  neg : s.last < 0 → s.first = 1
  has : s.first ≠ 0 → 1 ≤ s.step
  non : s.first = 0 → s.last = 0 ∧ s.step = 0 ∧ s.writes = false
  one : 0 ≤ s.last → s.last = s.first ∧ (s.first = 1 → 1 ≤ s.least ∧ s.step = 1)
  all : s.last < 0 → 1 ≤ s.least ∧ (s.step = 2 → 2 ≤ s.least)
theorem fsp_ok (x : ByteArray) : SpOk (fsp x) := by
  have hk : fk x < 48 := by have := fk_le x; omega
  obtain ⟨a, b, c, d, e, f, g, h, i, j⟩ := sp_ok1 (fk x) hk
  obtain ⟨k, l, m⟩ := sp_ok2 (fk x) hk
  obtain ⟨n, o⟩ := sp_ok3 (fk x) hk
  exact ⟨a, b, c, d, e, f, g, h, i, j, k, l, m, n, o⟩
/-- Does the number of arguments fit? -/
def fit (s : Sp) (n : Nat) : Prop := s.least ≤ n ∧ (n : Int) ≤ s.most ∧ (s.last < 0 → (n : Int) % s.step = 0)
instance (s : Sp) (n : Nat) : Decidable (fit s n) := by unfold fit; exact inferInstance
/-- What Check tells. -/
def chk : List ByteArray → Sp × Int
  | [] => (sp0, 120)
  | x :: r => if fis x = true then (if fit (fsp x) r.length then (fsp x, 0) else (sp0, 121)) else (sp0, 120)

theorem box1 {w w1 : World} {v0 v1 v2 v3 v4 v5 v6 : Value} (hb : Below (w.alloc (.cells #[v0, v1, v2, v3, v4, v5, v6] 25)).heap.size (w.alloc (.cells #[v0, v1, v2, v3, v4, v5, v6] 25)) w1) :
    w1.heap[w.heap.size]? = some (.cells #[v0, v1, v2, v3, v4, v5, v6] 25 (0, 0)) := by
  rw [hb.block _ (by simp)]; exact heap_alloc_new w _
end Go.Proofs.YtgakeclocbfnpaaDoor.T
