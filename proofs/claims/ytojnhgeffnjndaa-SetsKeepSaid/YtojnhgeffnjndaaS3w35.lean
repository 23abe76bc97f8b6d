import Derived.Test.YtojnhgeffnjndaaProg
import Derived.Test.YtojnhgeffnjndaaS3
import Derived.WalkKit
import Derived.Outline
import Derived.WalkLawsBesides
import Derived.Deep.QuietTactic
import Derived.BigQuiet
import Derived.Lib.Hide
import Derived.Handy
import Derived.Deep.RegionHeld3
import Derived.Deep.DrawnRows
import Derived.Sort.Walk0
import Derived.Great.Walk
import Derived.OneCell
import Derived.OwnWalk
import Derived.Laws.OwnMore
namespace Go.Proofs.Ytojnhgeffnjndaa.T
open Go Go.RowKit Mem Go.Great
set_option maxRecDepth 100000
set_option maxHeartbeats 8000000
set_option linter.unusedVariables false
set_option linter.unusedSimpArgs false

theorem walk35 {α : Type} (step : α → ByteArray → Bool → Bool → α) (Inv : Nat → α → World → Prop) (w w0 : World) (la lb : List ByteArray) (A B : Option Addr) (ca cb : Nat) (acc0 : α)
    (ha : Rd w A la) (hb : Rd w B lb) (hca : la.length ≤ ca) (hcb : lb.length ≤ cb) (hN : la.length + lb.length < 2 ^ 42) (hca2 : ca ≤ maxLen) (hcb2 : cb ≤ maxLen) (h0 : Below w.heap.size w w0) (hI : Inv 0 acc0 w0) (hd : ∀ i a w q, Inv i a w → Inv i a (w.drewN q))
    (ht : ∀ i a s f t wr, i < 2 ^ 42 → Inv i a wr → Calls Try.prog 35 #[.string s, .bool f, .bool t, .pointer (some ⟨w.heap.size, 0, none⟩)] wr fun e w' => e = .returned (.tuple #[]) ∧ Inv (i + 1) (step a s f t) w' ∧ Below w.heap.size wr w') :
    Calls Try.prog 32 #[.slice A la.length ca, .slice B lb.length cb, .func (.func 35) #[] #[.pointer (some ⟨w.heap.size, 0, none⟩)]] w0 fun e w' => e = .returned (.tuple #[]) ∧ (∃ i, Inv i (mrg step la lb acc0) w') ∧ Below w.heap.size w w' := by
  go_enter Try.func32, Try.ntmps32
  have HA := Lib.hid ha; have HB := Lib.hid hb; have HI := Lib.hid hI; have HD := Lib.hid hd; have HT := Lib.hid ht; have H0 := Lib.hid h0
  clear ha hb hI hd ht h0
  go_wp2_with fail
  go_loopw [0, 1, 6, 7, 8] (fun sa sb x6 x7 x8 wr => ∃ (A : Option Addr) (B : Option Addr) (n m ca cb i : Nat) (ra rb : List ByteArray) (acc : α), sa = .slice A n ca ∧ sb = .slice B m cb ∧ RowKit.Hid (ra.length = n) ∧ RowKit.Hid (rb.length = m) ∧ n ≤ ca ∧ m ≤ cb ∧ ca ≤ maxLen ∧ cb ≤ maxLen ∧ i + n + m < 2 ^ 42 ∧ RowKit.Hid (Rd w A ra) ∧ RowKit.Hid (Rd w B rb) ∧ RowKit.Hid (Inv i acc wr) ∧ RowKit.Hid (mrg step ra rb acc = mrg step la lb acc0) ∧ RowKit.Hid (Below w.heap.size w wr)) (fun sa sb _ _ _ _ => (match sa with | .slice _ n _ => n | _ => 0) + (match sb with | .slice _ n _ => n | _ => 0))
  case atStart => exact ⟨A, B, la.length, lb.length, ca, cb, 0, la, lb, acc0, rfl, rfl, Lib.hid rfl, Lib.hid rfl, hca, hcb, hca2, hcb2, by omega, HA, HB, HI, Lib.hid rfl, H0⟩
  case round =>
    obtain ⟨A, B, n, m, ca, cb, i, ra, rb, acc, rfl, rfl, hn, hm, hnc, hmc, hc1, hc2, hN2, ra_, rb_, hi_, hs_, hb_⟩ := hrel
    cases ra with
    | nil =>
      obtain rfl : n = 0 := by simpa using hn.out.symm
      cases rb with
      | nil =>
        obtain rfl : m = 0 := by simpa using hm.out.symm
        have hend : mrg step la lb acc0 = acc := by rw [← hs_.out, mrg]
        have HE := Lib.hid hend
        clear hend
        go_wp2
        exact bodyPost_end0 rfl rfl ⟨rfl, ⟨i, by rw [HE.out]; exact hi_.out⟩, hb_.out⟩
      | cons y rb =>
        obtain ⟨b1, o1, rfl, hx, _⟩ := rb_.out.head
        have hx' := cell_below hb_.out hx
        have hn1 : rb.length + 1 = m := hm.out
        clear hx
        have HC := Lib.hid (fun q => HT.out i acc y false true (wr.drewN q) (by omega) (HD.out _ _ _ q hi_.out))
        have hz : ((m : Int) == 0) = false := by simp; omega
        go_wp2
        go_quiet (fail)
        go_wp2
        go_quiet (fail)
        go_wp2_with (go_at_call 35; refine (HC.out _).mono ?_; rintro e w1 ⟨rfl, hi1, hb1⟩; have HI1 := Lib.hid hi1; have HB1 := Lib.hid ((hb_.out.trans_drewN _).trans hb1); clear hi1 hb1)
        exact ⟨⟨_, _, 0, m - 1, ca, cb - 1, i + 1, [], rb, _, rfl, rfl, Lib.hid rfl, Lib.hid (by omega), by omega, by omega, by omega, by omega, by omega, ra_, Lib.hid (rb_.out.tail' (by omega)), HI1, Lib.hid (by rw [← hs_.out, mrg]), HB1⟩, by simp; omega⟩
    | cons x ra => 
      obtain ⟨b1, o1, rfl, hx, _⟩ := ra_.out.head
      have hx' := cell_below hb_.out hx
      have hn1 : ra.length + 1 = n := hn.out
      have hz : ((n : Int) == 0) = false := by simp; omega
      clear hx
      cases rb with
      | nil => 
        obtain rfl : m = 0 := by simpa using hm.out.symm
        have HC := Lib.hid (fun q => HT.out i acc x true false (wr.drewN q) (by omega) (HD.out _ _ _ q hi_.out))
        go_wp2
        go_quiet (fail)
        go_wp2
        go_quiet (fail)
        go_wp2_with (go_at_call 35; refine (HC.out _).mono ?_; rintro e w1 ⟨rfl, hi1, hb1⟩; have HI1 := Lib.hid hi1; have HB1 := Lib.hid ((hb_.out.trans_drewN _).trans hb1); clear hi1 hb1)
        exact ⟨⟨_, _, n - 1, 0, ca - 1, cb, i + 1, ra, [], _, rfl, rfl, Lib.hid (by omega), Lib.hid rfl, by omega, by omega, by omega, by omega, by omega, Lib.hid (ra_.out.tail' (by omega)), rb_, HI1, Lib.hid (by rw [← hs_.out, mrg]), HB1⟩, by simp; omega⟩
      | cons y rb =>
        obtain ⟨b2, o2, rfl, hy, _⟩ := rb_.out.head
        have hy' := cell_below hb_.out hy
        have hm1 : rb.length + 1 = m := hm.out
        have hz2 : ((m : Int) == 0) = false := by simp; omega
        have hp1 : (0 : Int) < (n : Int) := by omega
        have hp2 : (0 : Int) < (m : Int) := by omega
        have hp3 : 0 < n := by omega
        have hp4 : 0 < m := by omega
        clear hy
        by_cases hlt : x.toList < y.toList
        · have HL := Lib.hid hlt
          obtain ⟨k1, k2⟩ := leq_of_lt hlt
          clear hlt
          have HC := Lib.hid (fun q => HT.out i acc x true false (wr.drewN q) (by omega) (HD.out _ _ _ q hi_.out))
          go_wp2
          go_quiet (fail)
          go_wp2
          go_quiet (fail)
          go_wp2_with (go_at_call 35; refine (HC.out _).mono ?_; rintro e w1 ⟨rfl, hi1, hb1⟩; have HI1 := Lib.hid hi1; have HB1 := Lib.hid ((hb_.out.trans_drewN _).trans hb1); clear hi1 hb1)
          exact ⟨⟨_, _, n - 1, m, ca - 1, cb, i + 1, ra, y :: rb, _, rfl, rfl, Lib.hid (by omega), hm, by omega, by omega, by omega, by omega, by omega, Lib.hid (ra_.out.tail' (by omega)), rb_, HI1, Lib.hid (by rw [← hs_.out, mrg, if_pos HL.out]), HB1⟩, by simp; omega⟩
        · by_cases heq : x = y
          · have HL := Lib.hid hlt; have HE := Lib.hid heq
            obtain ⟨k1, k2⟩ := leq_of_eq heq
            clear hlt heq
            have HC := Lib.hid (fun q => HT.out i acc y true true (wr.drewN q) (by omega) (HD.out _ _ _ q hi_.out))
            go_wp2
            go_quiet (fail)
            go_wp2
            go_quiet (fail)
            go_wp2_with (go_at_call 35; refine (HC.out _).mono ?_; rintro e w1 ⟨rfl, hi1, hb1⟩; have HI1 := Lib.hid hi1; have HB1 := Lib.hid ((hb_.out.trans_drewN _).trans hb1); clear hi1 hb1)
            exact ⟨⟨_, _, n - 1, m - 1, ca - 1, cb - 1, i + 1, ra, rb, _, rfl, rfl, Lib.hid (by omega), Lib.hid (by omega), by omega, by omega, by omega, by omega, by omega, Lib.hid (ra_.out.tail' (by omega)), Lib.hid (rb_.out.tail' (by omega)), HI1, Lib.hid (by rw [← hs_.out, mrg, if_neg HL.out, if_pos HE.out]), HB1⟩, by simp; omega⟩
          · have HL := Lib.hid hlt; have HE := Lib.hid heq
            obtain ⟨k2, k1⟩ := leq_of_lt (lt_or hlt heq)
            clear hlt heq
            have HC := Lib.hid (fun q => HT.out i acc y false true (wr.drewN q) (by omega) (HD.out _ _ _ q hi_.out))
            go_wp2
            go_quiet (fail)
            go_wp2
            go_quiet (fail)
            go_wp2_with (go_at_call 35; refine (HC.out _).mono ?_; rintro e w1 ⟨rfl, hi1, hb1⟩; have HI1 := Lib.hid hi1; have HB1 := Lib.hid ((hb_.out.trans_drewN _).trans hb1); clear hi1 hb1)
            exact ⟨⟨_, _, n, m - 1, ca, cb - 1, i + 1, x :: ra, rb, _, rfl, rfl, hn, Lib.hid (by omega), by omega, by omega, by omega, by omega, by omega, ra_, Lib.hid (rb_.out.tail' (by omega)), HI1, Lib.hid (by rw [← hs_.out, mrg, if_neg HL.out, if_neg HE.out]), HB1⟩, by simp; omega⟩
end Go.Proofs.Ytojnhgeffnjndaa.T
