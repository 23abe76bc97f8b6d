import Derived.Deep.DeepCutAuto
import Derived.Test.YtdpgkihecpjijaaDoorProg
import Derived.Test.YtdpgkihecpjijaaDoorMem
import Derived.Test.YtdpgkihecpjijaaDoorVa
import Derived.Test.YtdpgkihecpjijaaDoorVb
import Derived.Test.YtdpgkihecpjijaaDoorVc
import Derived.Test.YtdpgkihecpjijaaDoorVd
import Derived.Test.YtdpgkihecpjijaaDoorVe
import Derived.Test.YtdpgkihecpjijaaDoorVf
import Derived.WalkKit
import Derived.Outline
import Derived.WalkLawsBesides
import Derived.Deep.QuietTactic
import Derived.BigQuiet
import Derived.Lib.Hide
import Derived.Handy
import Derived.Deep.RegionHeld3
import Derived.Deep.DrawnRows
import Derived.KernelRfl
import Derived.Sort.Walk0
import Derived.Great.Walk
import Derived.Test.YtdpgkihecpjijaaDoorOwn
namespace Go.Proofs.YtdpgkihecpjijaaDoor.T
open Go Go.RowKit Mem Own
set_option maxRecDepth 100000
set_option maxHeartbeats 1000000
set_option linter.unusedVariables false
set_option linter.unusedSimpArgs false

theorem quiet_left {P : Program} {f : FuncId} {args : Array Value} {w : World} {n : Nat} {v : Value}
    (h : Calls P f args (w.drewN n) fun e w' => e = .returned v ∧ w.drewN n = w') : Calls P f args (w.drewN n) fun e w'' => e = .returned v ∧ ∃ m, w'' = w.drewN m :=
  h.mono fun _ _ ⟨he, hm⟩ => ⟨he, n, hm.symm⟩
def pairsShort (l : List (ByteArray × ByteArray)) : Prop := ∀ p ∈ l, p.1.size ≤ 1024 ∧ p.2.size ≤ 1024
def itemsShort (l : List ByteArray) : Prop := ∀ x ∈ l, x.size ≤ 1024
def cnt (n : Nat) : Prop := 1 ≤ n ∧ n ≤ 256
/-- May a value be? -/
def RightV (a : Vl) : Prop := a = bareV a ∧
  ((a.kind = 1 ∧ a.text.size ≤ 4096) ∨ (a.kind = 2 ∧ pairsShort a.pairs ∧ Srt (a.pairs.map Prod.fst) ∧ cnt a.pairs.length) ∨ (a.kind = 3 ∧ itemsShort a.items ∧ cnt a.items.length) ∨
   (a.kind = 4 ∧ Srt a.items ∧ itemsShort a.items ∧ cnt a.items.length) ∨ (a.kind = 5 ∧ ptOk a.re a.im))
theorem right1 {a : Vl} (hb : a = bareV a) (hk : a.kind = 1) : RightV a ↔ a.text.size ≤ 4096 := by unfold RightV; simp [hk]; exact fun _ => hb
theorem right2 {a : Vl} (hb : a = bareV a) (hk : a.kind = 2) : RightV a ↔ (pairsShort a.pairs ∧ Srt (a.pairs.map Prod.fst) ∧ cnt a.pairs.length) := by unfold RightV; simp [hk]; exact fun _ _ _ => hb
theorem right3 {a : Vl} (hb : a = bareV a) (hk : a.kind = 3) : RightV a ↔ (itemsShort a.items ∧ cnt a.items.length) := by unfold RightV; simp [hk]; exact fun _ _ => hb
theorem right4 {a : Vl} (hb : a = bareV a) (hk : a.kind = 4) : RightV a ↔ (Srt a.items ∧ itemsShort a.items ∧ cnt a.items.length) := by unfold RightV; simp [hk]; exact fun _ _ _ => hb
theorem right5 {a : Vl} (hb : a = bareV a) (hk : a.kind = 5) : RightV a ↔ ptOk a.re a.im := by unfold RightV; simp [hk]; exact fun _ => hb
theorem right_other {a : Vl} (h : (a.kind == 1) = false ∧ (a.kind == 2) = false ∧ (a.kind == 3) = false ∧ (a.kind == 4) = false ∧ (a.kind == 5) = false) : ¬ RightV a := by
  simp at h; unfold RightV; simp [h]
theorem vsame_yes (v u : Value) (a b : Vl) (w : World) (hv : VRd w v a) (hu : VRd w u b) (h : a = b) : Calls Tryd.prog 25 #[v, u] w fun e w' => e = .returned (.bool true) ∧ Below w.heap.size w w' :=
  (vsame_is v u a b w hv hu).mono fun e w' ⟨r, h1, h2, h3⟩ => ⟨by rw [h1, h2.2 h], h3⟩
theorem vsame_no (v u : Value) (a b : Vl) (w : World) (hv : VRd w v a) (hu : VRd w u b) (h : ¬ a = b) : Calls Tryd.prog 25 #[v, u] w fun e w' => e = .returned (.bool false) ∧ Below w.heap.size w w' :=
  (vsame_is v u a b w hv hu).mono fun e w' ⟨r, h1, h2, h3⟩ => ⟨by rw [h1]; cases r; rfl; exact absurd (h2.1 rfl) h, h3⟩
def vO (k : Int) (t : ByteArray) (PA : Option Addr) (pn pc : Nat) (IA : Option Addr) (n ic : Nat) (re im : Int) : Obj := .cells #[.int .i64 k, .string t, .slice PA pn pc, .slice IA n ic, .int .i64 re, .int .i64 im] 27 (0, 0)

theorem box_blk {w w1 : World} {o : Obj} (hb : Below (w.heap.size + 1) (w.alloc o) w1) : w1.heap[w.heap.size]? = some o := by
  rw [hb.block _ (Nat.lt_succ_self _)]; exact heap_alloc_new w o
theorem box_below {w w1 : World} {o : Obj} (hb : Below (w.heap.size + 1) (w.alloc o) w1) : Below w.heap.size w w1 :=
  ((Below.refl _ _).alloc (Nat.le_refl _) o).trans (hb.mono (Nat.le_succ _))
theorem sright_yes (A : Option Addr) (l : List ByteArray) (c : Nat) (w : World) (ha : Rd w A l) (hn : l.length ≤ maxLen) (h : Srt l) : Calls Tryd.prog 39 #[.slice A l.length c] w fun e w' => e = .returned (.bool true) ∧ Below w.heap.size w w' :=
  (sright_is A l c w ha hn).mono fun e w' ⟨r, h1, h2, h3⟩ => ⟨by rw [h1, h2.2 h], h3⟩
theorem sright_no (A : Option Addr) (l : List ByteArray) (c : Nat) (w : World) (ha : Rd w A l) (hn : l.length ≤ maxLen) (h : ¬ Srt l) : Calls Tryd.prog 39 #[.slice A l.length c] w fun e w' => e = .returned (.bool false) ∧ Below w.heap.size w w' :=
  (sright_is A l c w ha hn).mono fun e w' ⟨r, h1, h2, h3⟩ => ⟨by rw [h1]; cases r; rfl; exact absurd (h2.1 rfl) h, h3⟩
theorem short_yes (s : ByteArray) (w : World) (hs : s.size ≤ maxLen) (h : s.size ≤ 1024) : Calls Tryd.prog 37 #[.string s] w fun e w' => e = .returned (.bool true) ∧ w = w' :=
  (short_is s w hs).mono fun e w' ⟨h1, h2⟩ => ⟨by rw [h1, decide_eq_true h], h2⟩
theorem short_no (s : ByteArray) (w : World) (hs : s.size ≤ maxLen) (h : ¬ s.size ≤ 1024) : Calls Tryd.prog 37 #[.string s] w fun e w' => e = .returned (.bool false) ∧ w = w' :=
  (short_is s w hs).mono fun e w' ⟨h1, h2⟩ => ⟨by rw [h1, decide_eq_false h], h2⟩
theorem short_next {ps : List (ByteArray × ByteArray)} {k : Nat} {p1 p2 : ByteArray} (hk : k < ps.length) (hp : (p1, p2) = ps[k]) (h : ∀ p ∈ ps.take k, p.1.size ≤ 1024 ∧ p.2.size ≤ 1024) (h12 : p1.size ≤ 1024 ∧ p2.size ≤ 1024) :
    ∀ p ∈ ps.take (k + 1), p.1.size ≤ 1024 ∧ p.2.size ≤ 1024 := by
  intro p hpm
  rw [List.take_succ_eq_append_getElem hk] at hpm
  rcases List.mem_append.1 hpm with h' | h'
  · exact h p h'
  · rw [List.mem_singleton.1 h', ← hp]; exact h12
theorem rise_next {ps : List (ByteArray × ByteArray)} {m : Nat} {p1 p2 : ByteArray} (hk : m + 1 < ps.length) (hp : (p1, p2) = ps[m + 1]) (h : ∀ j (h1 : j < ps.length) (h2 : j + 1 < ps.length), j + 1 < m + 1 → (ps[j].1).toList < (ps[j + 1].1).toList) (hq : (ps[m].1).toList < p1.toList) :
    ∀ j (h1 : j < ps.length) (h2 : j + 1 < ps.length), j + 1 < m + 1 + 1 → (ps[j].1).toList < (ps[j + 1].1).toList := by
  intro j h1 h2 hj
  rcases Nat.lt_succ_iff_lt_or_eq.1 hj with h' | h'
  · exact h j h1 h2 h'
  · obtain rfl : j = m := by omega
    rw [← hp]; exact hq
theorem not_rise {ps : List (ByteArray × ByteArray)} {m : Nat} {p1 p2 : ByteArray} (hk : m + 1 < ps.length) (hp : (p1, p2) = ps[m + 1]) (h : Srt (ps.map Prod.fst)) (hq : ¬ (ps[m].1).toList < p1.toList) : False := by
  have := srt_at h m (by simp; omega) (by simpa using hk)
  simp only [List.getElem_map] at this
  rw [← hp] at this
  exact hq this
theorem not_short {ps : List (ByteArray × ByteArray)} {k : Nat} {p1 p2 : ByteArray} (hk : k < ps.length) (hp : (p1, p2) = ps[k]) (h : pairsShort ps) : p1.size ≤ 1024 ∧ p2.size ≤ 1024 := by
  have := h ps[k] (List.getElem_mem _)
  rwa [← hp] at this
theorem inlong_yes (A : Option Addr) (l : List ByteArray) (c : Nat) (w : World) (ha : Rd w A l) (hn : l.length ≤ maxLen) (hz : ∀ x ∈ l, x.size ≤ maxLen) (h : itemsShort l) : Calls Tryd.prog 40 #[.slice A l.length c, .func (.func 41) #[] #[]] w fun e w' => e = .returned (.bool false) ∧ w = w' :=
  (inlong_is A l c w ha hn hz).mono fun e w' ⟨h1, h2⟩ => ⟨by rw [h1, decide_eq_true (show ∀ x ∈ l, x.size ≤ 1024 from h)]; rfl, h2⟩
theorem inlong_no (A : Option Addr) (l : List ByteArray) (c : Nat) (w : World) (ha : Rd w A l) (hn : l.length ≤ maxLen) (hz : ∀ x ∈ l, x.size ≤ maxLen) (h : ¬ itemsShort l) : Calls Tryd.prog 40 #[.slice A l.length c, .func (.func 41) #[] #[]] w fun e w' => e = .returned (.bool true) ∧ w = w' :=
  (inlong_is A l c w ha hn hz).mono fun e w' ⟨h1, h2⟩ => ⟨by rw [h1, decide_eq_false (show ¬ ∀ x ∈ l, x.size ≤ 1024 from h)]; rfl, h2⟩
/-- A function that tells whether P. -/
def BoolOut (P : Prop) (w : World) (e : Ending) (w' : World) : Prop := ∃ r : Bool, e = .returned (.bool r) ∧ (r = true ↔ P) ∧ Below w.heap.size w w'
/-- value.Right -/
theorem right_is (v : Value) (a : Vl) (w : World) (hv : VRd w v a) :
    Calls Tryd.prog 18 #[v] w (BoolOut (RightV a) w) := by
  have hv' := hv
  obtain ⟨⟨PA, pc, IA, ic, rfl, hP, hI⟩, a1, a2, a3, a4, a5⟩ := hv
  have HV := Lib.hid hv'
  clear hv'
  obtain ⟨k, t, ps, is, re, im⟩ := a
  dsimp only at HV hP hI a1 a2 a3 a4 a5 ⊢
  have HP := Lib.hid hP; have HI := Lib.hid hI; have A4 := Lib.hid a4; have A5 := Lib.hid a5
  clear hP hI a4 a5
  have hu := Tryd.underlying25
  unfold maxLen at a1 a2 a3
  by_cases hb : (⟨k, t, ps, is, re, im⟩ : Vl) = bareV ⟨k, t, ps, is, re, im⟩
  · have HBA := Lib.hid hb
    clear hb
    go_enter Tryd.func18, Tryd.ntmps18
    go_upto_region 1 with fail
    go_cut [9] (fun s9 wx => s9 = .bool false ∧ RowKit.Hid (Below (w.heap.size + 1) (w.alloc (.cells #[.int .i64 k, .string t, .slice PA ps.length pc, .slice IA is.length ic, .int .i64 re, .int .i64 im] 27)) wx))
    case first =>
      go_region_held3 (fun w' => w'.cell? ⟨w.heap.size, 0, none⟩ = some (.int .i64 k) ∧ w'.cell? ⟨w.heap.size, 1, none⟩ = some (.string t) ∧ w'.cell? ⟨w.heap.size, 2, none⟩ = some (.slice PA ps.length pc) ∧ w'.cell? ⟨w.heap.size, 3, none⟩ = some (.slice IA is.length ic) ∧ w'.cell? ⟨w.heap.size, 4, none⟩ = some (.int .i64 re) ∧ w'.cell? ⟨w.heap.size, 5, none⟩ = some (.int .i64 im) ∧ Below (w.heap.size + 1) (w.alloc (.cells #[.int .i64 k, .string t, .slice PA ps.length pc, .slice IA is.length ic, .int .i64 re, .int .i64 im] 27)) w')
        (((refine ⟨?_, ?_, ?_, ?_, ?_, ?_, ?_⟩ <;> (first | ((repeat (first | exact Below.refl _ _ | (refine Below.drew ?_) | (refine Go.below_drewN ?_ _) | (refine Below.alloc ?_ (by first | (simp; done) | omega | (simp; omega)) _) | (refine Below.setCell ?_ (by first | (simp; done) | omega | (simp; omega)) _) | (refine Below.trans ?_ (Below.mono (by assumption) (by first | (simp; done) | omega | (simp; omega)))))); done) | (simp [go_sem]; done) | (rw [hb2.cell (by first | (simp; done) | omega | (simp; omega))]; (first | (simp only [*]; done) | (simp [go_sem]; done) | (simp [*, go_sem]; done))) | (rw [hb1.cell (by first | (simp; done) | omega | (simp; omega))]; (first | (simp only [*]; done) | (simp [go_sem]; done) | (simp [*, go_sem]; done))) | (simp [*, go_sem]; done)))))
        (first
          | (go_at_call 36; refine Calls.mono (bare_is _ _ _ (HV.out.below ?_)) ?_; (focus ((repeat (first | exact Below.refl _ _ | (refine Below.drew ?_) | (refine Go.below_drewN ?_ _) | (refine Below.alloc ?_ (by first | (simp; done) | omega | (simp; omega)) _) | (refine Below.setCell ?_ (by first | (simp; done) | omega | (simp; omega)) _) | (refine Below.trans ?_ (Below.mono (by assumption) (by first | (simp; done) | omega | (simp; omega)))))); done)); rintro e w1 ⟨u, rfl, hu1, hb1⟩; have hz1 : w.heap.size < w1.heap.size := (by have := hb1.size; simp at this; omega))
          | (go_at_call 25; refine Calls.mono (vsame_yes _ _ _ _ _ (HV.out.below ?_) (hu1.out.below ?_) HBA.out) ?_; (focus ((repeat (first | exact Below.refl _ _ | (refine Below.drew ?_) | (refine Go.below_drewN ?_ _) | (refine Below.alloc ?_ (by first | (simp; done) | omega | (simp; omega)) _) | (refine Below.setCell ?_ (by first | (simp; done) | omega | (simp; omega)) _) | (refine Below.trans ?_ (Below.mono (by assumption) (by first | (simp; done) | omega | (simp; omega)))))); done)); (focus ((repeat (first | exact Below.refl _ _ | (refine Below.drew ?_) | (refine Go.below_drewN ?_ _) | (refine Below.alloc ?_ (by first | (simp; done) | omega | (simp; omega)) _) | (refine Below.setCell ?_ (by first | (simp; done) | omega | (simp; omega)) _) | (refine Below.trans ?_ (Below.mono (by assumption) (by first | (simp; done) | omega | (simp; omega)))))); done)); rintro e w2 ⟨rfl, hb2⟩))
      all_goals
        go_wp2_with fail
        go_meet
        exact ⟨rfl, Lib.hid (by ((repeat (first | exact Below.refl _ _ | (refine Below.drew ?_) | (refine Go.below_drewN ?_ _) | (refine Below.alloc ?_ (by first | (simp; done) | omega | (simp; omega)) _) | (refine Below.setCell ?_ (by first | (simp; done) | omega | (simp; omega)) _) | (refine Below.trans ?_ (Below.mono (by assumption) (by first | (simp; done) | omega | (simp; omega)))))); done))⟩
    case rest =>
      obtain ⟨rfl, HB⟩ := hcut
      have HY := Lib.hid (box_blk HB.out)
      obtain ⟨d0, d1, d2, d3, d4, d5⟩ := facts6 HY.out
      have hz : w.heap.size < wc.heap.size := by have := HB.out.size; simp at this; omega
      rcases kinds k with rfl | rfl | rfl | rfl | rfl | h
      · have HR := Lib.hid (right1 HBA.out rfl)
        go_wp2
        go_ret
        exact ⟨decide ((t.size : Int) ≤ 4096), rfl, by rw [HR.out]; simp; try omega, box_below HB.out⟩
      · have HR := Lib.hid (right2 HBA.out rfl)
        have HPc := Lib.hid (HP.out.below (box_below HB.out))
        go_wp2_with fail
        go_loopw [29] (fun x wr => ∃ k : Nat, k ≤ ps.length ∧ x = .int .i64 k ∧ RowKit.Hid (∀ p ∈ ps.take k, p.1.size ≤ 1024 ∧ p.2.size ≤ 1024) ∧ RowKit.Hid (∀ j (h1 : j < ps.length) (h2 : j + 1 < ps.length), j + 1 < k → (ps[j].1).toList < (ps[j + 1].1).toList) ∧ RowKit.Hid (Below wc.heap.size wc wr)) (fun x _ => ps.length - (intOf x).toNat)
        case atStart => exact ⟨0, Nat.zero_le _, rfl, Lib.hid fun x hx => by simp at hx, Lib.hid fun j _ _ h => by omega, Lib.hid (Below.refl _ _)⟩
        case round =>
          obtain ⟨k, hk, rfl, HSh, HRi, HW⟩ := hrel
          obtain ⟨d0, d1, d2, d3, d4, d5⟩ := facts6 (keep_block HW.out HY.out)
          by_cases hlt : k < ps.length
          · obtain ⟨b1, o1, rfl⟩ := HPc.out.addr (by omega)
            obtain ⟨g1, g2⟩ := (HPc.out.below HW.out).cell hlt
            obtain ⟨s1, s2⟩ := A4.out ps[k] (List.getElem_mem _)
            obtain ⟨p, hp⟩ : ∃ p, p = ps[k] := ⟨_, rfl⟩
            rw [← hp] at g1 g2 s1 s2
            obtain ⟨p1, p2⟩ := p
            dsimp only at g1 g2 s1 s2
            have hzw : w.heap.size < wr.heap.size := by have := HW.out.size; omega
            have hb1l := lt_of_cell g1
            dsimp only at hb1l
            have HPK := Lib.hid hp
            clear hp
            by_cases h1 : p1.size ≤ 1024
            · by_cases h2 : p2.size ≤ 1024
              · have H12 := Lib.hid (And.intro h1 h2)
                have HSh2 := Lib.hid (short_next hlt HPK.out HSh.out H12.out)
                cases k with
                | zero =>
                  simp only [Nat.zero_mul, Nat.add_zero] at g1 g2
                  go_wp2
                  go_quiet ((go_at_call 37; (first | (with_reducible exact quiet_left (short_yes p1 _ s1 h1)) | (with_reducible exact quiet_left (short_yes p2 _ s2 h2)))))
                  go_wp2
                  exact ⟨⟨1, by omega, rfl, HSh2, Lib.hid fun j _ _ h => by omega, Lib.hid (drewN_below (HW.out.alloc HW.out.size _) _)⟩, by simp [intOf]; omega⟩
                | succ m =>
                  obtain ⟨g3, -⟩ := (HPc.out.below HW.out).cell (k := m) (by omega)
                  obtain ⟨q, hq⟩ : ∃ q, q = ps[m].1 := ⟨_, rfl⟩
                  rw [← hq] at g3
                  have HQ := Lib.hid hq
                  clear hq
                  by_cases hqp : q.toList < p1.toList
                  · have e1 : (!Op.bytesLess q.toList p1.toList) = false := by rw [bytesLess_eq]; simpa using hqp
                    have HRi2 := Lib.hid (rise_next hlt HPK.out HRi.out (by rw [← HQ.out]; exact hqp))
                    clear hqp
                    go_wp2
                    go_quiet ((go_at_call 37; (first | (with_reducible exact quiet_left (short_yes p1 _ s1 h1)) | (with_reducible exact quiet_left (short_yes p2 _ s2 h2)))))
                    go_wp2
                    exact ⟨⟨m + 1 + 1, by omega, by go_num, HSh2, HRi2, Lib.hid (drewN_below (HW.out.alloc HW.out.size _) _)⟩, by simp [intOf]; omega⟩
                  · have e1 : (!Op.bytesLess q.toList p1.toList) = true := by rw [bytesLess_eq]; simpa using hqp
                    have HQP := Lib.hid hqp
                    clear hqp
                    go_wp2
                    go_quiet ((go_at_call 37; (first | (with_reducible exact quiet_left (short_yes p1 _ s1 h1)) | (with_reducible exact quiet_left (short_yes p2 _ s2 h2)))))
                    go_wp2
                    go_ret
                    exact ⟨false, rfl, no_iff fun h => not_rise hlt HPK.out (HR.out.1 h).2.1 (by rw [← HQ.out]; exact HQP.out), (box_below HB.out).trans ((drewN_below (HW.out.alloc HW.out.size _) _).mono (by omega))⟩
              · go_wp2
                go_quiet ((go_at_call 37; (first | (with_reducible exact quiet_left (short_yes p1 _ s1 h1)) | (with_reducible exact quiet_left (short_no p2 _ s2 h2)))))
                go_wp2
                go_ret
                exact ⟨false, rfl, no_iff fun h => h2 (not_short hlt HPK.out (HR.out.1 h).1).2, (box_below HB.out).trans ((drewN_below (HW.out.alloc HW.out.size _) _).mono (by omega))⟩
            · go_wp2
              go_quiet ((go_at_call 37; (first | (with_reducible exact quiet_left (short_no p1 _ s1 h1)))))
              go_wp2
              go_ret
              exact ⟨false, rfl, no_iff fun h => h1 (not_short hlt HPK.out (HR.out.1 h).1).1, (box_below HB.out).trans ((drewN_below (HW.out.alloc HW.out.size _) _).mono (by omega))⟩
          · have HFin := Lib.hid (show RightV ⟨2, t, ps, is, re, im⟩ ↔ cnt ps.length from HR.out.trans (by
              have h1 : pairsShort ps := by have := HSh.out; rwa [List.take_of_length_le (by omega)] at this
              have h2 : Srt (ps.map Prod.fst) := srt_of fun j h1 h2 => by
                simp at h1 h2
                have := HRi.out j (by omega) (by omega) (by omega)
                simpa using this
              exact ⟨fun h => h.2.2, fun h => ⟨h1, h2, h⟩⟩))
            obtain ⟨r, hr⟩ : ∃ r, r = decide (1 ≤ ps.length ∧ ps.length ≤ 256) := ⟨_, rfl⟩
            have HRr := Lib.hid hr
            clear hr
            go_wp2_with (go_at_call 38; refine (many_is ps.length _).mono ?_; rintro e w1 ⟨rfl, rfl⟩; rw [← HRr.out])
            go_ret
            exact ⟨r, rfl, by rw [HFin.out, HRr.out, decide_eq_true_iff]; exact Iff.rfl, (box_below HB.out).trans (HW.out.mono (by omega))⟩
      · have HR := Lib.hid (right3 HBA.out rfl)
        have HIc := Lib.hid (HI.out.below (box_below HB.out))
        by_cases hc : 1 ≤ is.length ∧ is.length ≤ 256
        · have HD := Lib.hid (decide_eq_true hc)
          have HCN := Lib.hid (show cnt is.length from hc)
          clear hc
          by_cases hsh : itemsShort is
          · have HSHT := Lib.hid hsh
            clear hsh
            go_wp2_with (first
              | (go_at_call 38; refine (many_is is.length _).mono ?_; rintro e w1 ⟨rfl, rfl⟩; rw [HD.out])
              | (go_at_call 40; refine (inlong_yes IA is ic _ HIc.out a2 A5.out HSHT.out).mono ?_; rintro e w2 ⟨rfl, rfl⟩))
            go_ret
            exact ⟨true, rfl, ⟨fun _ => HR.out.2 ⟨HSHT.out, HCN.out⟩, fun _ => rfl⟩, box_below HB.out⟩
          · have HSHT := Lib.hid hsh
            clear hsh
            go_wp2_with (first
              | (go_at_call 38; refine (many_is is.length _).mono ?_; rintro e w1 ⟨rfl, rfl⟩; rw [HD.out])
              | (go_at_call 40; refine (inlong_no IA is ic _ HIc.out a2 A5.out HSHT.out).mono ?_; rintro e w2 ⟨rfl, rfl⟩))
            go_ret
            exact ⟨false, rfl, no_iff fun h => HSHT.out (HR.out.1 h).1, box_below HB.out⟩
        · have HD := Lib.hid (decide_eq_false hc)
          have HCN := Lib.hid (show ¬ cnt is.length from hc)
          clear hc
          go_wp2_with (go_at_call 38; refine (many_is is.length _).mono ?_; rintro e w1 ⟨rfl, rfl⟩; rw [HD.out])
          go_ret
          exact ⟨false, rfl, no_iff (by rw [HR.out]; exact fun h => HCN.out h.2), box_below HB.out⟩
      · have HR := Lib.hid (right4 HBA.out rfl)
        have HIc := Lib.hid (HI.out.below (box_below HB.out))
        by_cases hs : Srt is
        · have HS := Lib.hid hs
          clear hs
          by_cases hc : 1 ≤ is.length ∧ is.length ≤ 256
          · have HD := Lib.hid (decide_eq_true hc)
            have HCN := Lib.hid (show cnt is.length from hc)
            clear hc
            by_cases hsh : itemsShort is
            · have HSHT := Lib.hid hsh
              clear hsh
              go_wp2_with (first
                | (go_at_call 39; refine (sright_yes IA is ic _ HIc.out a2 HS.out).mono ?_; rintro e w0 ⟨rfl, hb0⟩; obtain ⟨d0, d1, d2, d3, d4, d5⟩ := facts6 (keep_block hb0 HY.out))
                | (go_at_call 38; refine (many_is is.length _).mono ?_; rintro e w1 ⟨rfl, rfl⟩; rw [HD.out])
                | (go_at_call 40; refine (inlong_yes IA is ic _ (HIc.out.below hb0) a2 A5.out HSHT.out).mono ?_; rintro e w2 ⟨rfl, rfl⟩))
              go_ret
              exact ⟨true, rfl, ⟨fun _ => HR.out.2 ⟨HS.out, HSHT.out, HCN.out⟩, fun _ => rfl⟩, (box_below HB.out).trans (hb0.mono (by omega))⟩
            · have HSHT := Lib.hid hsh
              clear hsh
              go_wp2_with (first
                | (go_at_call 39; refine (sright_yes IA is ic _ HIc.out a2 HS.out).mono ?_; rintro e w0 ⟨rfl, hb0⟩; obtain ⟨d0, d1, d2, d3, d4, d5⟩ := facts6 (keep_block hb0 HY.out))
                | (go_at_call 38; refine (many_is is.length _).mono ?_; rintro e w1 ⟨rfl, rfl⟩; rw [HD.out])
                | (go_at_call 40; refine (inlong_no IA is ic _ (HIc.out.below hb0) a2 A5.out HSHT.out).mono ?_; rintro e w2 ⟨rfl, rfl⟩))
              go_ret
              exact ⟨false, rfl, no_iff fun h => HSHT.out (HR.out.1 h).2.1, (box_below HB.out).trans (hb0.mono (by omega))⟩
          · have HD := Lib.hid (decide_eq_false hc)
            have HCN := Lib.hid (show ¬ cnt is.length from hc)
            clear hc
            go_wp2_with (first
              | (go_at_call 39; refine (sright_yes IA is ic _ HIc.out a2 HS.out).mono ?_; rintro e w0 ⟨rfl, hb0⟩; obtain ⟨d0, d1, d2, d3, d4, d5⟩ := facts6 (keep_block hb0 HY.out))
              | (go_at_call 38; refine (many_is is.length _).mono ?_; rintro e w1 ⟨rfl, rfl⟩; rw [HD.out]))
            go_ret
            exact ⟨false, rfl, no_iff (by rw [HR.out]; exact fun h => HCN.out h.2.2), (box_below HB.out).trans (hb0.mono (by omega))⟩
        · have HS := Lib.hid hs
          clear hs
          go_wp2_with (go_at_call 39; refine (sright_no IA is ic _ HIc.out a2 HS.out).mono ?_; rintro e w0 ⟨rfl, hb0⟩; obtain ⟨d0, d1, d2, d3, d4, d5⟩ := facts6 (keep_block hb0 HY.out))
          go_ret
          exact ⟨false, rfl, no_iff (by rw [HR.out]; exact fun h => HS.out h.1), (box_below HB.out).trans (hb0.mono (by omega))⟩
      · have HR := Lib.hid (right5 HBA.out rfl)
        go_wp2_with (go_at_call 42; refine (pright_is re im _).mono ?_; rintro e w1 ⟨rfl, hb1⟩)
        go_ret
        exact ⟨decide (ptOk re im), rfl, by rw [HR.out]; simp, (box_below HB.out).trans (hb1.mono (by omega))⟩
      · have HR := Lib.hid (right_other (a := ⟨k, t, ps, is, re, im⟩) h)
        obtain ⟨k1, k2, k3, k4, k5⟩ := h
        go_wp2
        go_ret
        exact ⟨false, rfl, no_iff HR.out, box_below HB.out⟩
  · have HBA := Lib.hid hb
    clear hb
    go_enter Tryd.func18, Tryd.ntmps18
    go_upto_region 1 with fail
    go_cut [9] (fun s9 wx => s9 = .bool true ∧ RowKit.Hid (Below (w.heap.size + 1) (w.alloc (.cells #[.int .i64 k, .string t, .slice PA ps.length pc, .slice IA is.length ic, .int .i64 re, .int .i64 im] 27)) wx))
    case first =>
      go_region_held3 (fun w' => w'.cell? ⟨w.heap.size, 0, none⟩ = some (.int .i64 k) ∧ w'.cell? ⟨w.heap.size, 1, none⟩ = some (.string t) ∧ w'.cell? ⟨w.heap.size, 2, none⟩ = some (.slice PA ps.length pc) ∧ w'.cell? ⟨w.heap.size, 3, none⟩ = some (.slice IA is.length ic) ∧ w'.cell? ⟨w.heap.size, 4, none⟩ = some (.int .i64 re) ∧ w'.cell? ⟨w.heap.size, 5, none⟩ = some (.int .i64 im) ∧ Below (w.heap.size + 1) (w.alloc (.cells #[.int .i64 k, .string t, .slice PA ps.length pc, .slice IA is.length ic, .int .i64 re, .int .i64 im] 27)) w')
        (((refine ⟨?_, ?_, ?_, ?_, ?_, ?_, ?_⟩ <;> (first | ((repeat (first | exact Below.refl _ _ | (refine Below.drew ?_) | (refine Go.below_drewN ?_ _) | (refine Below.alloc ?_ (by first | (simp; done) | omega | (simp; omega)) _) | (refine Below.setCell ?_ (by first | (simp; done) | omega | (simp; omega)) _) | (refine Below.trans ?_ (Below.mono (by assumption) (by first | (simp; done) | omega | (simp; omega)))))); done) | (simp [go_sem]; done) | (rw [hb2.cell (by first | (simp; done) | omega | (simp; omega))]; (first | (simp only [*]; done) | (simp [go_sem]; done) | (simp [*, go_sem]; done))) | (rw [hb1.cell (by first | (simp; done) | omega | (simp; omega))]; (first | (simp only [*]; done) | (simp [go_sem]; done) | (simp [*, go_sem]; done))) | (simp [*, go_sem]; done)))))
        (first
          | (go_at_call 36; refine Calls.mono (bare_is _ _ _ (HV.out.below ?_)) ?_; (focus ((repeat (first | exact Below.refl _ _ | (refine Below.drew ?_) | (refine Go.below_drewN ?_ _) | (refine Below.alloc ?_ (by first | (simp; done) | omega | (simp; omega)) _) | (refine Below.setCell ?_ (by first | (simp; done) | omega | (simp; omega)) _) | (refine Below.trans ?_ (Below.mono (by assumption) (by first | (simp; done) | omega | (simp; omega)))))); done)); rintro e w1 ⟨u, rfl, hu1, hb1⟩; have hz1 : w.heap.size < w1.heap.size := (by have := hb1.size; simp at this; omega))
          | (go_at_call 25; refine Calls.mono (vsame_no _ _ _ _ _ (HV.out.below ?_) (hu1.out.below ?_) HBA.out) ?_; (focus ((repeat (first | exact Below.refl _ _ | (refine Below.drew ?_) | (refine Go.below_drewN ?_ _) | (refine Below.alloc ?_ (by first | (simp; done) | omega | (simp; omega)) _) | (refine Below.setCell ?_ (by first | (simp; done) | omega | (simp; omega)) _) | (refine Below.trans ?_ (Below.mono (by assumption) (by first | (simp; done) | omega | (simp; omega)))))); done)); (focus ((repeat (first | exact Below.refl _ _ | (refine Below.drew ?_) | (refine Go.below_drewN ?_ _) | (refine Below.alloc ?_ (by first | (simp; done) | omega | (simp; omega)) _) | (refine Below.setCell ?_ (by first | (simp; done) | omega | (simp; omega)) _) | (refine Below.trans ?_ (Below.mono (by assumption) (by first | (simp; done) | omega | (simp; omega)))))); done)); rintro e w2 ⟨rfl, hb2⟩))
      all_goals
        go_wp2_with fail
        go_meet
        exact ⟨rfl, Lib.hid (by ((repeat (first | exact Below.refl _ _ | (refine Below.drew ?_) | (refine Go.below_drewN ?_ _) | (refine Below.alloc ?_ (by first | (simp; done) | omega | (simp; omega)) _) | (refine Below.setCell ?_ (by first | (simp; done) | omega | (simp; omega)) _) | (refine Below.trans ?_ (Below.mono (by assumption) (by first | (simp; done) | omega | (simp; omega)))))); done))⟩
    case rest =>
      obtain ⟨rfl, HB⟩ := hcut
      go_wp2
      go_ret
      exact ⟨false, rfl, no_iff fun h => HBA.out h.1, box_below HB.out⟩
end Go.Proofs.YtdpgkihecpjijaaDoor.T
