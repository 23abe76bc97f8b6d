import Derived.Deep.DeepCutAuto
import Derived.Laws.OwnMore
import Derived.OwnWalk
import Derived.Lib.AppendStr
import Derived.Lib.SliceRun
import Derived.Lib.SmallJoins
import Derived.IntWalk
import Derived.Lib.ItoaLen
import Derived.WalkMore
import Derived.Lib.AtoiAllCases
import Derived.Lib.OthersKept
import Derived.Laws.Runes
import Derived.Deep.LoopGhost
import Derived.Deep.RegionLaw
import Derived.Deep.AppendLies
import Derived.Test.YteghfinngilfgaaDoorProg
import Derived.Test.YteghfinngilfgaaDoorMem
import Derived.Test.YteghfinngilfgaaDoorYx
import Derived.Test.YteghfinngilfgaaDoorAp
import Derived.WalkKit
import Derived.Outline
import Derived.WalkLawsBesides
import Derived.Deep.QuietTactic
import Derived.BigQuiet
import Derived.Lib.Hide
import Derived.Handy
import Derived.Deep.RegionHeld3
import Derived.Deep.DrawnRows
import Derived.KernelRfl
import Derived.Great.Walk
import Derived.Test.YteghfinngilfgaaDoorOwn
namespace Go.Proofs.YteghfinngilfgaaDoor.T
open Go Go.RowKit Go.Sort Mem Own
set_option maxRecDepth 100000
set_option maxHeartbeats 1000000
set_option linter.unusedVariables false
set_option linter.unusedSimpArgs false

/-- A reply's tree in blocks from B on, besides f. -/
def RdO (f : Option Nat) (B : Nat) (w : World) (A : Option Addr) (x : T) : Prop := ∀ w' : World, (∀ k, B ≤ k → f ≠ some k → ∀ o, w.heap[k]? = some o → w'.heap[k]? = some o) → RdT w' A x
theorem RdO.step {f f' : Option Nat} {B : Nat} {w w' : World} {A : Option Addr} {x : T} (h : RdO f B w A x) (hk : ∀ k, B ≤ k → f ≠ some k → ∀ o, w.heap[k]? = some o → w'.heap[k]? = some o) (hf : f' = f ∨ ∀ k, f' = some k → w.heap.size ≤ k) : RdO f' B w' A x := by
  intro w'' h''
  refine h w'' fun k hB hne o ho => h'' k hB ?_ o (hk k hB hne o ho)
  intro e
  rcases hf with hf | hf
  · exact hne (hf ▸ e)
  · have := hf k e; have := lt_of_blk ho; omega
theorem RdN.other {B B' : Nat} {f : Option Nat} {w : World} {A : Option Addr} {x : T} (h : RdN B' w A x) (hB : B ≤ B') (hf : ∀ k, f = some k → k < B') : RdO f B w A x := fun w' hw => h w' fun k hk o ho => hw k (by omega) (fun e => by have := hf k e; omega) o ho
/-- The cells of a row of replies. -/
def rcs : List (T × Option Addr × Nat) → List Value
  | [] => []
  | p :: q => .int .i64 p.1.k :: .int .i64 p.1.z :: .string p.1.t :: .slice p.2.1 p.1.l.length p.2.2 :: rcs q
theorem rcs_len : ∀ q, (rcs q).length = q.length * 4
  | [] => rfl
  | p :: q => by simp only [rcs, List.length_cons, rcs_len q]; omega
theorem rcs_app : ∀ q r, rcs (q ++ r) = rcs q ++ rcs r
  | [], r => rfl
  | p :: q, r => by simp only [rcs, List.cons_append, rcs_app q r]
theorem row_rd {w : World} {g : Nat} : ∀ (q : List (T × Option Addr × Nat)) (off : Nat), (∀ j u, (rcs q)[j]? = some u → w.cell? ⟨g, off + j, none⟩ = some u) → (∀ p ∈ q, RdT w p.2.1 p.1) → RdRow w g off (q.map (·.1))
  | [], off, _, _ => trivial
  | p :: q, off, hc, hr => by
    refine ⟨⟨p.2.1, p.2.2, hc 0 _ rfl, hc 1 _ rfl, hc 2 _ rfl, hc 3 _ rfl, hr p (List.mem_cons_self ..)⟩, row_rd q (off + 4) (fun j u hj => ?_) fun p' hp => hr p' (List.mem_cons_of_mem _ hp)⟩
    rw [show off + 4 + j = off + (j + 4) by omega]
    exact hc (j + 4) u hj
/-- The state of a loop that appends replies. -/
structure LSt (B : Nat) (l : List T) (i : Nat) (v : Value) (wx : World) : Prop where
  ex : ∃ q : List (T × Option Addr × Nat), q.map (·.1) = l.take i ∧ wx.ownsRow B 24 4 v i (rcs q) ∧ ∀ p ∈ q, RdO v.ownBlock B wx p.2.1 p.1
theorem LSt.nil (B : Nat) (l : List T) (w : World) : LSt B l 0 (.slice none 0 0) w := ⟨[], by simp, World.ownsRow_nil _ _ _ _, by simp⟩
theorem LSt.keep {B : Nat} {l : List T} {i : Nat} {v : Value} {w w' : World} (h : LSt B l i v w) (hb : Below w.heap.size w w') : LSt B l i v w' := by
  obtain ⟨q, h1, h2, h3⟩ := h.ex
  exact ⟨q, h1, own_below h2 hb, fun p hp => (h3 p hp).step (fun k _ _ o ho => keep_blk hb ho) (.inl rfl)⟩
theorem LSt.form {B : Nat} {l : List T} {i : Nat} {v : Value} {w : World} (h : LSt B l i v w) : ∃ A c, v = .slice A i c := by
  obtain ⟨q, -, h2, -⟩ := h.ex
  rcases h2.2 with ⟨rfl, rfl⟩ | ⟨g, cap, cur, rfl, _⟩
  · exact ⟨_, _, rfl⟩
  · exact ⟨_, _, rfl⟩
theorem info24 : (Tryd.prog.info? 24).map (fun i => (i.zero, i.size, i.bytes)) = some (some (.agg #[.int .i64 0, .int .i64 0, .string ⟨#[]⟩, .slice none 0 0]), 4, 56) := by kernel_rfl
/-- One more reply. -/
theorem LSt.push {B : Nat} {l : List T} {i : Nat} {v : Value} {wx w1 w2 : World} {A : Option Addr} {c g cc : Nat} {x : T} (h : LSt B l i v wx) (hx : l[i]? = some x) (hn : l.length ≤ 1000000000000) (hBx : B ≤ wx.heap.size) (hrd : RdN wx.heap.size w1 A x) (hb : Below wx.heap.size wx w1) (hb2 : Below w1.heap.size w1 w2)
    (hg : w2.heap[g]? = some (.cells #[.int .i64 x.k, .int .i64 x.z, .string x.t, .slice A x.l.length c] 24 (0, 0))) :
    ∃ v' w', (Builtin.append_ #[22, 22] 22 #[v, .slice (some ⟨g, 0, none⟩) 1 cc]).run Tryd.prog w2 = .ok v' w' ∧ LSt B l (i + 1) v' w' ∧ (∀ b o, b < B → w2.heap[b]? = some o → w'.heap[b]? = some o) ∧ w2.grownBy w' v.ownBlock ∧ (∀ k, v.ownBlock = some k → B ≤ k) := by
  have hi : i < l.length := (List.getElem?_eq_some_iff.1 hx).1
  have hxe : l[i] = x := (List.getElem?_eq_some_iff.1 hx).2
  obtain ⟨q, h1, h2, h3⟩ := h.ex
  have hz1 := hb.size
  have hz2 := hb2.size
  have hlt := fun k hk => h2.lt k hk
  have hb12 : Below wx.heap.size wx w2 := hb.trans (hb2.mono hz1)
  have ho2 := own_below h2 hb12
  obtain ⟨i0, hi0, hz, hsz, hby⟩ := info_parts info24
  obtain ⟨c0, c1, c2, c3⟩ := cells4 hg
  obtain ⟨v', w', k1, k2, k3, k4⟩ := run_append_own2 (P := Tryd.prog) w2 B 22 22 24 i0 _ 4 56 Tryd.underlying22 hi0 hz hsz hby rfl (by decide) v i _ ho2 ⟨g, 0, none⟩ 1 cc (rcs [(x, A, c)]) rfl
    (by
      intro j u hj
      match j, hj with
      | 0, hj => cases hj; exact c0
      | 1, hj => cases hj; exact c1
      | 2, hj => cases hj; exact c2
      | 3, hj => cases hj; exact c3
      | j + 4, hj => simp [rcs] at hj)
    (by intro u hu; simp only [rcs, List.mem_cons, List.not_mem_nil, or_false] at hu; rcases hu with rfl | rfl | rfl | rfl <;> rfl)
    (by unfold maxLen; omega) (by omega) (by omega)
  refine ⟨v', w', k1, ⟨q ++ [(x, A, c)], ?_, ?_, ?_⟩, ?_, k3, fun k hk => (hlt k hk).1⟩
  · rw [List.map_append, h1, List.take_succ_eq_append_getElem hi, hxe]; rfl
  · rw [rcs_app]; exact k2
  · intro p hp
    have hg2 : ∀ k, B ≤ k → v.ownBlock ≠ some k → ∀ o, w2.heap[k]? = some o → w'.heap[k]? = some o := fun k _ hne o ho => by
      rw [k3.block k (lt_of_blk ho) (fun e => hne e.symm)]; exact ho
    rcases List.mem_append.1 hp with hp | hp
    · exact ((h3 p hp).step (fun k _ _ o ho => keep_blk hb12 ho) (.inl rfl)).step hg2 k4
    · rw [List.mem_singleton.1 hp]
      exact ((hrd.below hb2).other hBx fun k hk => (hlt k hk).2).step hg2 k4
  · intro b o hbB ho
    rw [k3.block b (lt_of_blk ho) (fun e => by have := (hlt b e.symm).1; omega)]
    exact ho
theorem LSt.out {B : Nat} {l : List T} {v : Value} {w : World} (h : LSt B l l.length v w) : ∃ A c, v = .slice A l.length c ∧ RdN B w A (.mk 6 0 ⟨#[]⟩ l) := by
  obtain ⟨q, h1, h2, h3⟩ := h.ex
  rw [List.take_of_length_le (Nat.le_refl _)] at h1
  have h2' := h2
  rcases h2.2 with ⟨rfl, h0⟩ | ⟨g, cap, cur, rfl, hbg, hg, c1, c2, c3, c4⟩
  · exact ⟨none, 0, by rw [h0], fun _ _ => .inl (List.eq_nil_of_length_eq_zero h0)⟩
  · refine ⟨_, _, rfl, fun w' hk => .inr ⟨g, 0, rfl, ?_⟩⟩
    have ho : w'.ownsRow B 24 4 (.slice (some ⟨g, 0, none⟩) l.length cap) l.length (rcs q) := own_keep h2' fun k hk' o ho => hk k ((h2'.lt k hk').1) o ho
    have := row_rd q 0 (w := w') (g := g) (fun j u hj => by
      have := ho.cells (g := g) rfl j u hj
      rw [Own.addr_add] at this
      exact this) fun p hp => h3 p hp w' fun k hB _ o ho => hk k hB o ho
    rw [h1] at this
    exact this
theorem encs_at {d : Nat} : ∀ {l : List T} {r : List UInt8} (i : Nat) (hi : i < l.length), encs d l = some r → ∃ a b c, encs d (l.take i) = some a ∧ enc d l[i] = some b ∧ r = a ++ (b ++ c)
  | x :: l, r, 0, hi, h => by
    simp only [encs] at h
    obtain ⟨a0, h2, h3⟩ := Option.bind_eq_some_iff.1 h
    obtain ⟨b0, h4, rfl⟩ := Option.map_eq_some_iff.1 h3
    exact ⟨[], a0, b0, rfl, h2, rfl⟩
  | x :: l, r, i + 1, hi, h => by
    simp only [encs] at h
    obtain ⟨a0, h2, h3⟩ := Option.bind_eq_some_iff.1 h
    obtain ⟨b0, h4, rfl⟩ := Option.map_eq_some_iff.1 h3
    obtain ⟨a, b, c, e1, e2, rfl⟩ := encs_at i (by simpa using hi) h4
    exact ⟨a0 ++ a, b, c, by simp [encs, h2, e1], by simpa using e2, by simp⟩
set_option maxHeartbeats 4000000 in
/-- reply.list of the writings of replies. -/
theorem list_is (l : List T) (d : Nat) (r more : List UInt8) (s : ByteArray) (w : World) (hd : d < 4) (hl : l.length ≤ 1024) (he : encs (d + 1) l = some r) (hr : r.length ≤ 100000000000000) (hs : s.toList = r ++ more) (hsz : s.size ≤ 9223372036854775807) (hT : Tab w)
    (ih : ∀ x ∈ l, ∀ (bs more' : List UInt8) (u : ByteArray) (wx : World), enc (d + 1) x = some bs → bs.length ≤ 100000000000000 → u.toList = bs ++ more' → u.size ≤ 9223372036854775807 → Tab wx → Calls Tryd.prog 25 #[.string u, .int .i64 ((d : Int) + 1)] wx (ROut x bs.length wx.heap.size wx)) :
    Calls Tryd.prog 37 #[.string s, .int .i64 (l.length : Int), .int .i64 (d : Int)] w (LOut l r.length w.heap.size w) := by
  have HT := Lib.hid hT
  have HE := Lib.hid he
  have HS := Lib.hid hs
  have HR := Lib.hid hr
  have HIH := Lib.hid ih
  obtain ⟨N, hN⟩ : ∃ N, N = l.length := ⟨_, rfl⟩
  have HN := Lib.hid hN
  have hN1 : N ≤ 1024 := by omega
  rw [← hN]
  clear hT he hs ih hN hl hr
  go_enter Tryd.func37, Tryd.ntmps37
  go_wp2_with fail
  go_loopw [9, 10, 15] (fun s9 s10 s15 wx => ∃ (v : Value) (i : Nat) (a : List UInt8), v = s9 ∧ i ≤ N ∧ s15 = .int .i64 i ∧ s10 = .int .i64 (a.length : Int) ∧ RowKit.Hid (encs (d + 1) (l.take i) = some a) ∧ RowKit.Hid (LSt w.heap.size l i v wx) ∧ RowKit.Hid (Below w.heap.size w wx)) (fun _ _ s15 _ => N - (intOf s15).toNat)
  case atStart => exact ⟨_, 0, [], rfl, Nat.zero_le _, rfl, rfl, Lib.hid (by simp [encs]), Lib.hid (LSt.nil _ _ _), Lib.hid (Below.refl _ _)⟩
  case round =>
    obtain ⟨v, i, a, rfl, hi, rfl, rfl, HA, HL, HB⟩ := hrel
    have hzr := HB.out.size
    by_cases hlt : i < N
    · have hlt2 := Lib.hid (show i < l.length by rw [← HN.out]; exact hlt)
      have HQ := Lib.hid (encs_at i hlt2.out HE.out)
      obtain ⟨a', b, c, e1, e2, e3⟩ := HQ.out
      have ea : a' = a := by rw [HA.out] at e1; injection e1 with e1; exact e1.symm
      subst ea
      have HX := Lib.hid (List.getElem?_eq_getElem hlt2.out)
      have HM := Lib.hid (List.getElem_mem hlt2.out)
      have HA2 := Lib.hid (encs_take hlt2.out HA.out e2)
      generalize l[i]'hlt2.out = x at e2 HX HM HA2
      have hbl : b.length ≤ 100000000000000 := by have := HR.out; rw [e3] at this; simp at this; omega
      have hsl : s.size = a'.length + (b.length + (c ++ more).length) := by rw [← toList_len, HS.out, e3]; simp; try omega
      have hu : (s.extract a'.length s.size).toList = b ++ (c ++ more) := by
        rw [ext_from, HS.out, e3]; simp
      obtain ⟨u, hU⟩ : ∃ u, s.extract a'.length s.size = u := ⟨_, rfl⟩
      have hus : u.size ≤ 9223372036854775807 := by rw [← hU]; simp; omega
      rw [hU] at hu
      have HC := Lib.hid (fun (wx : World) (hT : Tab wx) => HIH.out x HM.out b (c ++ more) u wx e2 hbl hu hus hT)
      have hle : a'.length ≤ s.size := by omega
      have h24 : a'.length + b.length ≤ 100000000000000 := by have := HR.out; rw [e3] at this; simp at this; omega
      clear HQ e1 e2 e3 hu hus hsl
      go_upto_region 5 with fail
      go_cut [11, 12, 13, 9, 10] (fun s11 s12 s13 s9 s10 wx => ∃ (g : Nat) (A : Option Addr) (cc : Nat) (w1 : World), s11 = .pointer (some ⟨g, 0, none⟩) ∧ s12 = .int .i64 (b.length : Int) ∧ s13 = .int .i64 0 ∧ v = s9 ∧ s10 = .int .i64 (a'.length : Int) ∧ RowKit.Hid (wx.heap[g]? = some (.cells #[.int .i64 x.k, .int .i64 x.z, .string x.t, .slice A x.l.length cc] 24 (0, 0))) ∧ RowKit.Hid (RdN wr.heap.size w1 A x) ∧ RowKit.Hid (Below wr.heap.size wr w1) ∧ RowKit.Hid (Below w1.heap.size w1 wx))
      case first =>
        go_wp2_with (go_at_call 25; (try rw [hU]); refine Calls.mono (HC.out _ (HT.out.keep HB.out)) ?_; rintro e w1 ⟨A, cc, rfl, hrd, hb1⟩)
        go_meet
        exact ⟨_, A, cc, w1, rfl, rfl, rfl, rfl, rfl, Lib.hid (heap_alloc_new w1 _), Lib.hid hrd, Lib.hid hb1, Lib.hid ((Below.refl _ _).alloc (Nat.le_refl _) _)⟩
      case rest =>
        obtain ⟨g, A, cc, w1, rfl, rfl, rfl, rfl, rfl, HG, HRD, HB1, HB2⟩ := hcut
        have hz1 := HB1.out.size
        have hz2 := HB2.out.size
        obtain ⟨x0, x1, x2, x3⟩ := cells4 HG.out
        have hln : l.length ≤ 1000000000000 := by rw [← HN.out]; omega
        go_wp2_with (at_builtin; go_loud (refine Own.wpList_append_ex rfl (.tmp 30) (.tmp 32) 22 22 rfl v (.slice (some ⟨_, 0, none⟩) 1 1) rfl rfl _ (LSt.push HL.out HX.out hln hzr HRD.out HB1.out (HB2.out.alloc hz2 _) (heap_alloc_new _ _)) ?_); (rintro v2 w2 ⟨hl2, -, hg2, hv2⟩; have HL2 := Lib.hid hl2; have HB3 := Lib.hid (((HB.out.trans ((HB1.out.trans (HB2.out.mono hz1)).mono hzr)).alloc (by omega) _).grown hg2 (by rw [alloc_sz]; omega) hv2); clear hl2 hg2 hv2 x0 x1 x2 x3))
        exact ⟨⟨v2, i + 1, a' ++ b, rfl, by omega, by go_num, by simp, HA2, HL2, HB3⟩, by simp [intOf]; omega⟩
    · have hiN : i = l.length := by rw [← HN.out]; omega
      subst hiN
      have ha : a = r := by have := HA.out; rw [List.take_of_length_le (Nat.le_refl _), HE.out] at this; injection this with this; exact this.symm
      subst ha
      obtain ⟨C, k, rfl, hrd⟩ := HL.out.out
      have HRD := Lib.hid hrd
      have hNl := HN.out
      clear hrd
      go_wp2
      go_ret3
      exact ⟨C, k, rfl, HRD.out, HB.out⟩
end Go.Proofs.YteghfinngilfgaaDoor.T
