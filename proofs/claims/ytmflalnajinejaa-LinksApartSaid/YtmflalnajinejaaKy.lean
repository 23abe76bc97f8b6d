import Derived.Deep.DeepCutAuto
import Derived.Laws.OwnMore
import Derived.OwnWalk
import Derived.Lib.AppendStr
import Derived.Lib.SliceRun
import Derived.Lib.SmallJoins
import Derived.IntWalk
import Derived.WalkMore
import Derived.Lib.OthersKept
import Derived.Deep.LoopGhost
import Derived.Deep.RegionLaw
import Derived.Deep.AppendLies
import Derived.Test.YtmflalnajinejaaProg
import Derived.Test.YtmflalnajinejaaMem
import Derived.Test.YtmflalnajinejaaBlk
import Derived.Test.YtmflalnajinejaaAp
import Derived.Test.YtmflalnajinejaaKa
import Derived.Test.YtmflalnajinejaaKc
import Derived.Test.YtmflalnajinejaaKd
import Derived.Test.YtmflalnajinejaaKl
import Derived.Test.YtmflalnajinejaaOwn
import Derived.Test.YtmflalnajinejaaKu
import Derived.Test.YtmflalnajinejaaKv
import Derived.Test.YtmflalnajinejaaKx
import Derived.RangeFuncGives
import Derived.RangeFuncSeq
import Derived.Sort.MapsRangeIn
import Derived.Sort.KeysCollected
import Derived.OwnWalkIn
import Derived.TacticsInMore
import Derived.RegionIn
import Derived.LoopNIn
import Derived.LoopIn
import Derived.Maps.AppendAt
import Derived.Shelf.Abstract
import Derived.WalkKit
import Derived.Outline
import Derived.WalkLawsBesides
import Derived.Deep.QuietTactic
import Derived.BigQuiet
import Derived.Lib.Hide
import Derived.Handy
import Derived.Deep.RegionHeld3
import Derived.Deep.DrawnRows
import Derived.KernelRfl
import Derived.Great.Walk
import Derived.Test.YtmflalnajinejaaOwn
namespace Go.Proofs.Ytmflalnajinejaa.T
open Go Go.RowKit Go.Sort Mem Own
set_option maxRecDepth 100000
set_option maxHeartbeats 1000000
set_option linter.unusedVariables false
set_option linter.unusedSimpArgs false

open Go.WideMaps Go.Maps
/-- One link put into its place. -/
def insG (key : En) : List En → Bool → List En
  | [], d => if d then [] else [key]
  | o :: r, d => if (d || decide (o = key)) = false ∧ bef key o = true then key :: o :: insG key r true else o :: insG key r (d || decide (o = key))
theorem insG_true (key : En) : ∀ l : List En, insG key l true = l
  | [] => rfl
  | o :: r => by simp [insG, insG_true key r]
theorem bef_irr (a : En) : bef a a = false := by simp [bef]
theorem bef_tr {a b c : En} (h1 : bef a b = true) (h2 : bef b c = true) : bef a c = true := by simp [bef] at *; omega
theorem bef_tot {a b : En} (h1 : bef a b = false) (h2 : bef b a = false) : a = b := by
  obtain ⟨a1, a2⟩ := a
  obtain ⟨b1, b2⟩ := b
  simp [bef] at *
  omega
theorem insG_mem (key : En) : ∀ (l : List En) (x : En), x ∈ insG key l false ↔ (x = key ∨ x ∈ l)
  | [], x => by simp [insG]
  | o :: r, x => by
    by_cases h : o = key
    · subst h
      simp [insG, insG_true]
    · by_cases hb : bef key o = true
      · simp [insG, h, hb, insG_true]
      · have := insG_mem key r x
        simp [insG, h, hb, this]
        constructor
        · rintro (h1 | h1 | h1) <;> simp [h1]
        · rintro (h1 | h1 | h1) <;> simp [h1]
theorem insG_up (key : En) : ∀ (l : List En), l.Pairwise (fun a b => bef a b = true) → (insG key l false).Pairwise (fun a b => bef a b = true)
  | [], _ => by simp [insG]
  | o :: r, h => by
    have ho := (List.pairwise_cons.1 h).1
    have hr := (List.pairwise_cons.1 h).2
    by_cases e : o = key
    · subst e
      simpa [insG, insG_true] using h
    · by_cases hb : bef key o = true
      · have : insG key (o :: r) false = key :: o :: r := by simp [insG, e, hb, insG_true]
        rw [this]
        refine List.pairwise_cons.2 ⟨fun y hy => ?_, h⟩
        rcases List.mem_cons.1 hy with rfl | hy
        · exact hb
        · exact bef_tr hb (ho _ hy)
      · have : insG key (o :: r) false = o :: insG key r false := by simp [insG, e, hb]
        rw [this]
        refine List.pairwise_cons.2 ⟨fun y hy => ?_, insG_up key r hr⟩
        rcases (insG_mem key r y).1 hy with rfl | hy
        · cases hq : bef o y with
          | true => rfl
          | false => exact absurd (bef_tot hq (by simpa using hb)) e
        · exact ho _ hy
theorem insG_len (key : En) : ∀ (l : List En) (d : Bool), (insG key l d).length ≤ l.length + 1
  | [], d => by cases d <;> simp [insG]
  | o :: r, d => by
    have h1 := insG_len key r true
    have h2 := insG_len key r (d || decide (o = key))
    rw [insG_true] at h1
    unfold insG
    split
    · rw [insG_true]; simp
    · simp only [List.length_cons]; omega
/-- ref18.Pairs -/
def prs : List Wy → List En → List En
  | [], out => out
  | p :: l, out => prs l (insG p.1 out false)
theorem prs_mem : ∀ (l : List Wy) (out : List En) (x : En), x ∈ prs l out ↔ (x ∈ out ∨ ∃ p ∈ l, p.1 = x)
  | [], out, x => by simp [prs]
  | p :: l, out, x => by
    rw [prs, prs_mem l, insG_mem]
    constructor
    · rintro ((rfl | h) | ⟨q, hq, rfl⟩)
      · exact .inr ⟨p, by simp, rfl⟩
      · exact .inl h
      · exact .inr ⟨q, by simp [hq], rfl⟩
    · rintro (h | ⟨q, hq, rfl⟩)
      · exact .inl (.inr h)
      · rcases List.mem_cons.1 hq with rfl | hq
        · exact .inl (.inl rfl)
        · exact .inr ⟨q, hq, rfl⟩
theorem prs_up : ∀ (l : List Wy) (out : List En), out.Pairwise (fun a b => bef a b = true) → (prs l out).Pairwise (fun a b => bef a b = true)
  | [], out, h => h
  | p :: l, out, h => prs_up l _ (insG_up _ _ h)
/-- A rising list is known by what is in it. -/
theorem up_one : ∀ {a b : List En}, a.Pairwise (fun x y => bef x y = true) → b.Pairwise (fun x y => bef x y = true) → (∀ x, x ∈ a ↔ x ∈ b) → a = b
  | [], [], _, _, _ => rfl
  | [], y :: b, _, _, h => by have := (h y).2 (by simp); simp at this
  | x :: a, [], _, _, h => by have := (h x).1 (by simp); simp at this
  | x :: a, y :: b, ha, hb, h => by
    have hx := List.pairwise_cons.1 ha
    have hy := List.pairwise_cons.1 hb
    have e : x = y := by
      rcases List.mem_cons.1 ((h x).1 (by simp)) with e | e
      · exact e
      · rcases List.mem_cons.1 ((h y).2 (by simp)) with e2 | e2
        · exact e2.symm
        · have h1 := hy.1 x e
          have h2 := hx.1 y e2
          have := bef_tr h1 h2
          rw [bef_irr] at this; cases this
    subst e
    rw [up_one hx.2 hy.2 fun z => ?_]
    constructor
    · intro hz
      rcases List.mem_cons.1 ((h z).1 (by simp [hz])) with rfl | h'
      · have := hx.1 z hz; rw [bef_irr] at this; cases this
      · exact h'
    · intro hz
      rcases List.mem_cons.1 ((h z).2 (by simp [hz])) with rfl | h'
      · have := hy.1 z hz; rw [bef_irr] at this; cases this
      · exact h'
theorem prs_take {l : List Wy} {i : Nat} (hi : i < l.length) : prs (l.take (i + 1)) [] = insG l[i].1 (prs (l.take i) []) false := by
  have key : ∀ (l : List Wy) (p : Wy) (out : List En), prs (l ++ [p]) out = insG p.1 (prs l out) false := by
    intro l
    induction l with
    | nil => intro p out; rfl
    | cons q l ih => intro p out; exact ih p _
  rw [List.take_succ_eq_append_getElem hi, key]
theorem prs_len : ∀ (l : List Wy) (out : List En), (prs l out).length ≤ out.length + l.length
  | [], out => by simp [prs]
  | p :: l, out => by
    have h1 := prs_len l (insG p.1 out false)
    have h2 := insG_len p.1 out false
    simp only [prs, List.length_cons]; omega
/-- One more link to a row of one's own. -/
theorem app_en (W : World) (B : Nat) (v : Value) (acc : List En) (n : Nat) (h : W.ownsRow B 40 2 v n (acc.flatMap enC)) (hb : B ≤ W.heap.size) (hn : n < 1000000) (a b : Int) :
    ∃ v' w', (Builtin.append_ #[47, 47] 47 #[v, .slice (some ⟨W.heap.size, 0, none⟩) 1 1]).run Try.prog (W.alloc (.cells #[.int .i64 a, .int .i64 b] 40)) = .ok v' w' ∧ w'.ownsRow B 40 2 v' (n + 1) ((acc ++ [(a, b)]).flatMap enC) ∧ Below B W w' := by
  obtain ⟨i0, hi, hz0, hz1, hz2⟩ := info_parts info40
  obtain ⟨v', w', g1, g2, g3, _⟩ := run_append_own (P := Try.prog) (W.alloc (.cells #[.int .i64 a, .int .i64 b] 40)) B 47 47 40 i0 _ 2 16 Try.underlying47 hi hz0 hz1 hz2 rfl (by decide) v n _ (h.alloc _) ⟨W.heap.size, 0, none⟩ 1 1 [.int .i64 a, .int .i64 b] rfl (ctwo _ _ _ _) (one_two _ _) (by simp only [maxLen]; omega) (by omega) (by rw [alloc_size]; omega)
  refine ⟨v', w', g1, by simpa [enC] using g2, ?_⟩
  have h1 : Below B W (W.alloc (.cells #[.int .i64 a, .int .i64 b] 40)) := (Below.refl _ _).alloc hb _
  exact h1.grown g3 (by rw [alloc_size]; omega) (fun k hk => (h.lt k hk).1)
end Go.Proofs.Ytmflalnajinejaa.T
