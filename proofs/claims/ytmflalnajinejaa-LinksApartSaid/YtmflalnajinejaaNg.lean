import Derived.Deep.DeepCutAuto
import Derived.Laws.OwnMore
import Derived.OwnWalk
import Derived.Lib.AppendStr
import Derived.Lib.SliceRun
import Derived.Lib.SmallJoins
import Derived.IntWalk
import Derived.WalkMore
import Derived.Lib.OthersKept
import Derived.Deep.LoopGhost
import Derived.Deep.RegionLaw
import Derived.Deep.AppendLies
import Derived.Test.YtmflalnajinejaaProg
import Derived.Test.YtmflalnajinejaaMem
import Derived.Test.YtmflalnajinejaaBlk
import Derived.Test.YtmflalnajinejaaAp
import Derived.Test.YtmflalnajinejaaKa
import Derived.Test.YtmflalnajinejaaKc
import Derived.Test.YtmflalnajinejaaKd
import Derived.Test.YtmflalnajinejaaKe
import Derived.Test.YtmflalnajinejaaKh
import Derived.Test.YtmflalnajinejaaKj
import Derived.Test.YtmflalnajinejaaKl
import Derived.Test.YtmflalnajinejaaKm
import Derived.Test.YtmflalnajinejaaKn
import Derived.Test.YtmflalnajinejaaKx
import Derived.Test.YtmflalnajinejaaKy
import Derived.Test.YtmflalnajinejaaLa
import Derived.Test.YtmflalnajinejaaLb
import Derived.Test.YtmflalnajinejaaMa
import Derived.Test.YtmflalnajinejaaMb
import Derived.Test.YtmflalnajinejaaMc
import Derived.Test.YtmflalnajinejaaMd
import Derived.Test.YtmflalnajinejaaMf
import Derived.Test.YtmflalnajinejaaNa
import Derived.Test.YtmflalnajinejaaNb
import Derived.Test.YtmflalnajinejaaNd
import Derived.Test.YtmflalnajinejaaNe
import Derived.Test.YtmflalnajinejaaNf
import Derived.WalkKit
import Derived.Outline
import Derived.WalkLawsBesides
import Derived.Deep.QuietTactic
import Derived.BigQuiet
import Derived.Lib.Hide
import Derived.Handy
import Derived.Deep.RegionHeld3
import Derived.Deep.DrawnRows
import Derived.KernelRfl
import Derived.Great.Walk
import Derived.Test.YtmflalnajinejaaOwn
namespace Go.Proofs.Ytmflalnajinejaa.T
open Go Go.RowKit Go.Sort Mem Own
set_option maxRecDepth 100000
set_option maxHeartbeats 1000000
set_option linter.unusedVariables false
set_option linter.unusedSimpArgs false

open Go.WideMaps Go.Maps
theorem stepL_len (p : Ox) (L : List Wy) : (stepL p L).length ≤ L.length + 1 := by
  unfold stepL
  split
  · simp
  · split
    · exact Nat.le_trans (rm_le _ _) (by omega)
    · omega
theorem stepL_sm {p : Ox} {L : List Wy} (h : SmL L) (hw : p.way.wf) (ht : Tiny p.x.rep) (ha : p.x.args.length ≤ 100) : SmL (stepL p L) := by
  unfold stepL
  intro q hq
  split at hq
  · rcases List.mem_append.1 hq with hq | hq
    · exact h q hq
    · simp at hq; subst hq; exact ⟨hw, ht, ha⟩
  · split at hq
    · exact h q (rm_mem hq)
    · exact h q hq
/-- A Links and the document's row: they say the same. -/
structure Doc (w : World) (g b k : Nat) (A : Option Addr) (N : Nat) (L : List Wy) : Prop where
  q : ∃ Q, LK w g b k Q ∧ QR Q L
  len : L.length = N
  row : RdW w A L
  sm : SmL L
theorem Doc.below {w w' : World} {g b k N : Nat} {A : Option Addr} {L : List Wy} (h : Doc w g b k A N L) (hb : Below w.heap.size w w') : Doc w' g b k A N L := by
  obtain ⟨⟨Q, h1, h2⟩, h3, h4, h5⟩ := h
  exact ⟨⟨Q, h1.below hb, h2⟩, h3, h4.keeps (keeps_below hb), h5⟩
theorem Doc.isMap {w : World} {g b k N : Nat} {A : Option Addr} {L : List Wy} (h : Doc w g b k A N L) : ∃ es ck, w.heap[b]? = some (.map es ck) := h.q.elim fun _ h => h.1.isMap
theorem Doc.other {w w' : World} {g b k N g' b' k' N' : Nat} {A A' : Option Addr} {L L' : List Wy} (h : Doc w g b k A N L) (h' : Doc w g' b' k' A' N' L') (hne : b ≠ b') (hg : w.grownBy w' (some b')) : Doc w' g b k A N L := by
  obtain ⟨es, ck, e⟩ := h'.isMap
  obtain ⟨Q', h1', _⟩ := h'.q
  obtain ⟨⟨Q, h1, h2⟩, h3, h4, h5⟩ := h
  exact ⟨⟨Q, h1.other h1' hne hg, h2⟩, h3, h4.keeps (keeps_grown e hg), h5⟩
theorem doc_does (g b k : Nat) (L : List Wy) (A : Option Addr) (N c : Nat) (p : Ox) (o : Wh) (w : World) (h : Doc w g b k A N L) (hN : N ≤ 1000) (hk : k ≤ 1000) (hO : LtO w p.x o) (hwf : p.way.wf) (ht : Tiny p.x.rep) (ha : p.x.args.length ≤ 100) :
    Calls Try.prog 11 #[.pointer (some ⟨g, 0, none⟩), .slice A N c, oxV p o] w fun e w' => ∃ A' N' c', e = .returned (.tuple #[.slice A' N' c', .bool true]) ∧ Doc w' g b (k + 1) A' N' (stepL p L) ∧ N' ≤ N + 1 ∧ w.grownBy w' (some b) := by
  obtain ⟨⟨Q, h1, h2⟩, h3, h4, h5⟩ := h
  refine (does_is g b k Q L A N c p o w h1 h2 h3 hN hk h4 hO hwf ht ha h5).mono fun e w' ⟨A', c', Q', he, r1, r2, r3, r4⟩ => ⟨A', _, c', he, ⟨⟨Q', r2, r3⟩, rfl, r1, stepL_sm h5 hwf ht ha⟩, ?_, r4⟩
  rw [← h3]; exact stepL_len p L
theorem doc_stands (g b k : Nat) (L : List Wy) (A : Option Addr) (N c : Nat) (w : World) (h : Doc w g b k A N L) (hN : N ≤ 1000) (hk : k ≤ 1000) :
    Calls Try.prog 12 #[.pointer (some ⟨g, 0, none⟩), .slice A N c] w fun e w' => e = .returned (.bool true) ∧ Below w.heap.size w w' := by
  obtain ⟨⟨Q, h1, h2⟩, h3, h4, h5⟩ := h
  exact stands_is g b k Q L A N c w h1 h2 h3 hN hk h4 h5
theorem Doc.new {w : World} {g b : Nat} (h : LK w g b 0 (fun _ => [])) : Doc w g b 0 none 0 [] := ⟨⟨_, h, QR.nil⟩, rfl, .inl rfl, fun q hq => by cases hq⟩
set_option maxHeartbeats 8000000 in
/-- law18.LinksAll -/
theorem all_is (l : List Ox) (A : Option Addr) (n c : Nat) (w : World) (hl : l.length = n) (hr : RdX w A l) (hwf : ∀ p ∈ l, p.way.wf) :
    Calls Try.prog 3 #[.slice A n c] w fun e w' => e = .returned (.bool true) ∧ Below w.heap.size w w' := by
  have HR := Lib.hid hr
  have HL := Lib.hid hl
  have HWF := Lib.hid hwf
  have HFW := Lib.hid (few_all (l := l))
  have HFC := Lib.hid (fun (wx : World) (hb : Below w.heap.size w wx) => few_is l A n c wx hl (hr.keeps (keeps_below hb)))
  clear hr hl hwf
  generalize fewB l = sb at HFW HFC
  go_enter Try.func3, Try.ntmps3
  go_upto_region 2 with (go_at_call 8; refine Calls.mono (new_is _) ?_; (rintro e w1 ⟨g, b, rfl, hL, hb, hg, hbb⟩; have HLK := Lib.hid hL; have HB := Lib.hid hb; have HG := Lib.hid hg; have HBB := Lib.hid hbb; clear hL hb hg hbb))
  cases sb with
  | false =>
    go_wp2_with (first
      | (go_at_call 9; refine Calls.mono (HFC.out _ HB.out) ?_; (rintro e w2 ⟨rfl, hb2⟩; have HB2 := Lib.hid (HB.out.trans (hb2.mono HB.out.size)); clear hb2))
      | (go_at_call 10; refine Calls.mono (alive_is _) ?_; (rintro e w3 ⟨rfl, hb3⟩; have HB3 := Lib.hid (HB2.out.trans (hb3.mono HB2.out.size)); clear hb3)))
    go_ret
    exact ⟨rfl, HB3.out⟩
  | true =>
    have HF := Lib.hid (HFW.out rfl)
    have hn200 : n ≤ 200 := by rw [← HL.out]; exact HF.out.1
    go_upto_region 4 with (go_at_call 9; refine Calls.mono (HFC.out _ HB.out) ?_; (rintro e w2 ⟨rfl, hb2⟩; have HB2 := Lib.hid (HB.out.trans (hb2.mono HB.out.size)); have HD2 := Lib.hid (Doc.new (HLK.out.below hb2)); clear hb2))
    clear HFC HFW HLK HB
    go_wp2_with fail
    go_loopw [4, 24] (fun s4 s24 wr => ∃ i : Nat, i ≤ n ∧ s24 = .int .i64 i ∧ ∃ (k N : Nat) (A' : Option Addr) (c' : Nat) (L : List Wy), s4 = .slice A' N c' ∧ k ≤ i ∧ N ≤ i ∧ RowKit.Hid (Doc wr g b k A' N L) ∧ RowKit.Hid (Below w.heap.size w wr)) (fun _ s24 _ => n - (intOf s24).toNat)
    case atStart => exact ⟨0, Nat.zero_le _, rfl, 0, 0, none, 0, [], rfl, Nat.zero_le _, Nat.zero_le _, HD2, HB2⟩
    case round =>
      clear HD2 HB2
      obtain ⟨i, hi, rfl, k, N, A', c', L, rfl, hk, hN, HD, HBi⟩ := hrel
      have hzr := HBi.out.size
      by_cases hlt : i < n
      · have hlt2 := Lib.hid (show i < l.length by rw [HL.out]; exact hlt)
        obtain ⟨bq, off, rfl, hrow⟩ := HR.out.row (Nat.zero_lt_of_lt hlt2.out)
        obtain ⟨o, hx, g0, g1, g2, g3, g4, g5, g6, g7, g8, g9, g10, g11, g12, g13, g14, g15⟩ := ((hrow i hlt2.out).keeps (keeps_below HBi.out)).cells
        have HX := Lib.hid hx
        have HT := Lib.hid (HF.out.2 _ (List.getElem_mem hlt2.out))
        have HPW := Lib.hid (HWF.out _ (List.getElem_mem hlt2.out))
        clear hrow hx
        generalize l[i]'hlt2.out = p at g0 g1 g2 g3 g4 g5 g6 g7 g8 g9 g10 g11 g12 g13 g14 g15 HX HT HPW
        go_upto_region 7 with fail
        go_cut [6] (fun s6 wx => ∃ b6 : Nat, s6 = .pointer (some ⟨b6, 0, none⟩) ∧ RowKit.Hid (wx.heap[b6]? = some (.cells (oxC p o) 35 (0, 0))) ∧ RowKit.Hid (LtO wx p.x o) ∧ RowKit.Hid (Doc wx g b k A' N L) ∧ RowKit.Hid (Below w.heap.size w wx))
        case first =>
          go_wp2
          go_meet
          exact ⟨_, rfl, Lib.hid (heap_alloc_new wr _), Lib.hid (HX.out.keeps (keeps_below ((Below.refl _ _).alloc (Nat.le_refl _) _))), Lib.hid (HD.out.below ((Below.refl _ _).alloc (Nat.le_refl _) _)), Lib.hid (HBi.out.alloc hzr _)⟩
        case rest =>
          obtain ⟨b6, rfl, H6, HX1, HD1, HB1⟩ := hcut
          obtain ⟨y0, y1, y2, y3, y4, y5, y6, y7, y8, y9, y10, y11, y12, y13, y14, y15⟩ := cells16 H6.out
          have hz1 := HB1.out.size
          clear g0 g1 g2 g3 g4 g5 g6 g7 g8 g9 g10 g11 g12 g13 g14 g15 HD HBi HX
          have HDO := Lib.hid (doc_does g b k L A' N c' p o wc HD1.out (by omega) (by omega) HX1.out HPW.out HT.out.1 HT.out.2)
          go_wp2_with (first
            | (go_at_call 11; refine Calls.mono HDO.out ?_; (rintro e w2 ⟨A2, N2, c2, rfl, hd, hn2, hgr⟩; have HD2 := Lib.hid hd; have hN2 : N2 ≤ N + 1 := hn2; have HB2 := Lib.hid (below_turn HB1.out hgr HBB.out hz1); clear hd hn2 hgr))
            | (go_at_call 12; refine Calls.mono (doc_stands g b (k + 1) _ A2 N2 c2 w2 HD2.out (by omega) (by omega)) ?_; (rintro e w3 ⟨rfl, hb3⟩; have HD3 := Lib.hid (HD2.out.below hb3); have HB3 := Lib.hid (HB2.out.trans (hb3.mono HB2.out.size)); clear hb3)))
          exact ⟨⟨i + 1, by omega, by go_num, k + 1, N2, A2, c2, _, rfl, by omega, by omega, HD3, HB3⟩, by simp [intOf]; omega⟩
      · have hin : i = n := by omega
        subst hin
        go_wp2_with (go_at_call 10; refine Calls.mono (alive_is _) ?_; (rintro e w5 ⟨rfl, hb5⟩; have HB5 := Lib.hid (HBi.out.trans (hb5.mono hzr)); clear hb5))
        go_ret
        exact ⟨rfl, HB5.out⟩
end Go.Proofs.Ytmflalnajinejaa.T
