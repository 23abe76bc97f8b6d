import Derived.Deep.DeepCutAuto
import Derived.Laws.OwnMore
import Derived.OwnWalk
import Derived.Lib.AppendStr
import Derived.Test.YtdpgkihecpjijaaDoorProg
import Derived.Test.YtdpgkihecpjijaaDoorMem
import Derived.Test.YtdpgkihecpjijaaDoorVa
import Derived.Test.YtdpgkihecpjijaaDoorVb
import Derived.Test.YtdpgkihecpjijaaDoorVc
import Derived.Test.YtdpgkihecpjijaaDoorVd
import Derived.Test.YtdpgkihecpjijaaDoorVe
import Derived.Test.YtdpgkihecpjijaaDoorVf
import Derived.Test.YtdpgkihecpjijaaDoorVh0
import Derived.Test.YtdpgkihecpjijaaDoorVh
import Derived.WalkKit
import Derived.Outline
import Derived.WalkLawsBesides
import Derived.Deep.QuietTactic
import Derived.BigQuiet
import Derived.Lib.Hide
import Derived.Handy
import Derived.Deep.RegionHeld3
import Derived.Deep.DrawnRows
import Derived.KernelRfl
import Derived.Sort.Walk0
import Derived.Great.Walk
import Derived.Test.YtdpgkihecpjijaaDoorOwn
namespace Go.Proofs.YtdpgkihecpjijaaDoor.T
open Go Go.RowKit Mem Own
set_option maxRecDepth 100000
set_option maxHeartbeats 1000000
set_option linter.unusedVariables false
set_option linter.unusedSimpArgs false

theorem info5 : (Tryd.prog.info? 5).map (fun i => (i.zero, i.size, i.bytes)) = some (some (.int .u8 0), 1, 1) := by kernel_rfl
def bs (l : List UInt8) : List Value := l.map fun b => Value.int .u8 (b.toNat : Int)
/-- What a function leaves that writes into a row of bytes of the caller's: the blocks below B, and every block that is none of bytes. -/
def Kp (B : Nat) (w w' : World) : Prop := Below B w w' ∧ ∀ (k : Nat) (cs : Array Value) (T : TypeId) (fr : Nat × Nat), T ≠ 5 → w.heap[k]? = some (Obj.cells cs T fr) → w'.heap[k]? = some (Obj.cells cs T fr)
theorem Kp.refl (B : Nat) (w : World) : Kp B w w := ⟨Below.refl _ _, fun _ _ _ _ _ h => h⟩
theorem Kp.trans {B : Nat} {w w1 w2 : World} (h : Kp B w w1) (h' : Kp B w1 w2) : Kp B w w2 := ⟨h.1.trans h'.1, fun k cs T fr ht hk => h'.2 k cs T fr ht (h.2 k cs T fr ht hk)⟩
theorem Kp.of_below {B : Nat} {w w' : World} (hb : Below w.heap.size w w') (h : B ≤ w.heap.size) : Kp B w w' := ⟨hb.mono h, fun k cs T fr _ hk => keep_block hb hk⟩
theorem Kp.alloc {B : Nat} {w w' : World} (h : Kp B w w') (hB : B ≤ w'.heap.size) (o : Obj) : Kp B w (w'.alloc o) := h.trans (.of_below ((Below.refl _ _).alloc (Nat.le_refl _) o) hB)
theorem Kp.drewN {B : Nat} {w w' : World} (h : Kp B w w') (q : Nat) : Kp B w (w'.drewN q) := ⟨drewN_below h.1 q, fun k cs T fr ht hk => h.2 k cs T fr ht hk⟩
theorem Kp.drew {B : Nat} {w w' : World} (h : Kp B w w') : Kp B w w'.drew := ⟨Below.drew h.1, fun k cs T fr ht hk => h.2 k cs T fr ht hk⟩
theorem own_type {w : World} {B n : Nat} {v : Value} {xs : List Value} (h : w.ownsRow B 5 1 v n xs) : ∀ k, v.ownBlock = some k → ∃ cs fr, w.heap[k]? = some (.cells cs 5 fr) := by
  intro k hk
  rcases h.2 with ⟨rfl, _⟩ | ⟨g, cap, cur, rfl, _, hg, _⟩
  · simp [Value.ownBlock] at hk
  · simp [Value.ownBlock] at hk
    subst hk
    exact ⟨_, _, hg⟩
theorem kp_grown {B n : Nat} {w w' : World} {v : Value} {xs : List Value} (hown : w.ownsRow B 5 1 v n xs) (hB : B ≤ w.heap.size) (hg : w.grownBy w' v.ownBlock) : Kp B w w' := by
  refine ⟨(Below.refl B w).grown hg hB (fun k hk => (hown.lt k hk).1), fun k cs T fr ht hk => ?_⟩
  rw [hg.block k (lt_of_block hk) fun e => ?_]
  · exact hk
  · obtain ⟨cs', fr', h'⟩ := own_type hown k e.symm
    rw [hk] at h'
    injection h' with h'; injection h' with _ h' _
    exact ht h'
theorem own8_slice {w : World} {B n : Nat} {v : Value} {xs : List Value} (h : w.ownsRow B 5 1 v n xs) : ∃ A c, v = .slice A n c := by
  rcases h.2 with ⟨rfl, rfl⟩ | ⟨g, cap, cur, rfl, _⟩
  · exact ⟨none, 0, rfl⟩
  · exact ⟨_, _, rfl⟩
def two16 (n : Nat) : List UInt8 := [UInt8.ofNat (n / 256), UInt8.ofNat n]
/-- A row of bytes of the caller's, written on. -/
def RowOut (B n : Nat) (xs : List UInt8) (w : World) (e : Ending) (w' : World) : Prop := ∃ v', e = .returned v' ∧ RowKit.Hid (w'.ownsRow B 5 1 v' n (bs xs)) ∧ RowKit.Hid (Kp B w w')
theorem bs_two {n : Nat} (h : n < 65536) : bs (two16 n) = [.int .u8 ((n : Int) / 256), .int .u8 ((n : Int) % 256)] := by
  simp [bs, two16, UInt8.toNat_ofNat']
  omega
theorem bs_append (a b : List UInt8) : bs (a ++ b) = bs a ++ bs b := by simp [bs]
/-- value.two -/
theorem two_is (B : Nat) (v : Value) (xs : List UInt8) (m n : Nat) (w : World) (hown : w.ownsRow B 5 1 v m (bs xs)) (hB : B ≤ w.heap.size) (hm : m ≤ 2 ^ 40) (hn : n < 65536) :
    Calls Tryd.prog 27 #[v, .int .i64 (n : Int)] w (RowOut B (m + 2) (xs ++ two16 n) w) := by
  obtain ⟨i0, hi, hz0, hz1, hz2⟩ := info_parts info5
  have HO := Lib.hid hown
  have HBS := Lib.hid (bs_two hn)
  clear hown
  go_enter Tryd.func27, Tryd.ntmps27
  go_wp2_with (at_builtin; refine wpList_append_own _ rfl (.tmp 5) (.tmp 11) 38 rfl B 5 i0 _ 1 1 Tryd.underlying38 hi hz0 hz1 hz2 rfl (by decide) v m (bs xs) rfl (HO.out.alloc _) ⟨w.heap.size, 0, none⟩ 2 2 [.int .u8 ((n : Int) / 256), .int .u8 ((n : Int) % 256)] rfl rfl (by intro j u hj; match j, hj with | 0, hj => (simp at hj; subst hj; simp [Addr.add]) | 1, hj => (simp at hj; subst hj; simp [Addr.add])) (by intro u hu; simp at hu; rcases hu with rfl | rfl <;> rfl) (by unfold maxLen; omega) (by omega) (by rw [alloc_size]; omega) ?_; intro v1 w1 hown hg _; have HO1 := Lib.hid hown; have HK1 := Lib.hid ((Kp.of_below ((Below.refl _ _).alloc (Nat.le_refl _) _) hB).trans (kp_grown (HO.out.alloc _) (by rw [alloc_size]; omega) hg)); clear hown hg)
  go_ret
  exact ⟨_, rfl, Lib.hid (by rw [bs_append, HBS.out]; exact HO1.out), HK1⟩
/-- value.text -/
theorem text_is (B : Nat) (v : Value) (xs : List UInt8) (m : Nat) (s : ByteArray) (w : World) (hown : w.ownsRow B 5 1 v m (bs xs)) (hB : B ≤ w.heap.size) (hm : m ≤ 2 ^ 39) (hs : s.size < 65536) :
    Calls Tryd.prog 26 #[v, .string s] w (RowOut B (m + 2 + s.size) (xs ++ two16 s.size ++ s.data.toList) w) := by
  obtain ⟨i0, hi, hz0, hz1, hz2⟩ := info_parts info5
  have HT := Lib.hid (two_is B v xs m s.size w hown hB (by omega) hs)
  clear hown
  go_enter Tryd.func26, Tryd.ntmps26
  go_wp2_with (first
    | (go_at_call 27; refine HT.out.mono ?_; rintro e w1 ⟨v1, rfl, HO1, HK1⟩; have hB1 : B ≤ w1.heap.size := Nat.le_trans hB HK1.out.1.size)
    | (at_builtin; refine Lib.wpList_append_own_string _ rfl (.tmp 8) (.tmp 9) 38 9 rfl B 5 i0 Tryd.underlying38 Tryd.underlying9 hi hz0 hz1 hz2 v1 (m + 2) (bs (xs ++ two16 s.size)) rfl HO1.out s rfl (by unfold maxLen; omega) (by omega) hB1 ?_; intro v2 w2 hown hg _; have HO2 := Lib.hid hown; have HK2 := Lib.hid (HK1.out.trans (kp_grown HO1.out hB1 hg)); clear hown hg))
  go_ret
  exact ⟨_, rfl, Lib.hid (by rw [bs_append]; exact HO2.out), HK2⟩
def part4 (n : Int) : List UInt8 := [UInt8.ofNat ((n / 16777216) % 256).toNat, UInt8.ofNat ((n / 65536) % 256).toNat, UInt8.ofNat ((n / 256) % 256).toNat, UInt8.ofNat (n % 256).toNat]
theorem bs_part (n : Int) : bs (part4 n) = [.int .u8 ((n / 16777216) % 256), .int .u8 ((n / 65536) % 256), .int .u8 ((n / 256) % 256), .int .u8 (n % 256)] := by
  simp [bs, part4, UInt8.toNat_ofNat']
  refine ⟨?_, ?_, ?_, ?_⟩ <;> omega
/-- value.part -/
theorem part_is (B : Nat) (v : Value) (xs : List UInt8) (m : Nat) (n : Int) (w : World) (hown : w.ownsRow B 5 1 v m (bs xs)) (hB : B ≤ w.heap.size) (hm : m ≤ 2 ^ 40) (h1 : -1048576 ≤ n) (h2 : n ≤ 1048576) :
    Calls Tryd.prog 28 #[v, .int .i64 n] w (RowOut B (m + 4) (xs ++ part4 n) w) := by
  obtain ⟨i0, hi, hz0, hz1, hz2⟩ := info_parts info5
  have HO := Lib.hid hown
  have HBS := Lib.hid (bs_part n)
  clear hown
  go_enter Tryd.func28, Tryd.ntmps28
  go_wp2_with (at_builtin; refine wpList_append_own _ rfl (.tmp 5) (.tmp 17) 38 rfl B 5 i0 _ 1 1 Tryd.underlying38 hi hz0 hz1 hz2 rfl (by decide) v m (bs xs) rfl (HO.out.alloc _) ⟨w.heap.size, 0, none⟩ 4 4 [.int .u8 (n / 16777216 % 256), .int .u8 (n / 65536 % 256), .int .u8 (n / 256 % 256), .int .u8 (n % 256)] rfl rfl (by intro j u hj; match j, hj with | 0, hj => (simp at hj; subst hj; simp [Addr.add]) | 1, hj => (simp at hj; subst hj; simp [Addr.add]) | 2, hj => (simp at hj; subst hj; simp [Addr.add]) | 3, hj => (simp at hj; subst hj; simp [Addr.add])) (by intro u hu; simp at hu; rcases hu with rfl | rfl | rfl | rfl <;> rfl) (by unfold maxLen; omega) (by omega) (by rw [alloc_size]; omega) ?_; intro v1 w1 hown hg _; have HO1 := Lib.hid hown; have HK1 := Lib.hid ((Kp.of_below ((Below.refl _ _).alloc (Nat.le_refl _) _) hB).trans (kp_grown (HO.out.alloc _) (by rw [alloc_size]; omega) hg)); clear hown hg)
  go_ret
  exact ⟨_, rfl, Lib.hid (by rw [bs_append, HBS.out]; exact HO1.out), HK1⟩
end Go.Proofs.YtdpgkihecpjijaaDoor.T
