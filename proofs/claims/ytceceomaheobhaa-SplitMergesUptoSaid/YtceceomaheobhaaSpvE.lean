/- The reference's shares. -/
import Derived.Test.YtceceomaheobhaaSpX2
import Derived.Test.YtceceomaheobhaaSplK
import Derived.Test.YtceceomaheobhaaSpvG
import Derived.Deep.RegionHeld3
import Derived.Test.YtceceomaheobhaaSplZ
import Derived.Deep.DeepCutAuto
import Derived.Deep.CutBlock
namespace Go.Proofs.Ytceceomaheobhaa.spl
open Go.RowKit
open Go.Proofs.Ytceceomaheobhaa.lib Go.Proofs.Ytceceomaheobhaa.rd Go.Proofs.Ytceceomaheobhaa.app Go.Proofs.Ytceceomaheobhaa.els Go.Proofs.Ytceceomaheobhaa.loads Go.Proofs.Ytceceomaheobhaa.typ Go.Proofs.Ytceceomaheobhaa.big Go.Proofs.Ytceceomaheobhaa.ins Go.Proofs.Ytceceomaheobhaa.ord Go.Proofs.Ytceceomaheobhaa.flts Go.Proofs.Ytceceomaheobhaa.off
set_option linter.unusedVariables false
set_option linter.unusedSimpArgs false

theorem rsha_elem : ElemOf 51 54 (.agg #[.int .i64 0, .slice none 0 0]) 2 32 := ⟨Try.underlying51, by kernel_rfl, rfl, by decide, by decide⟩
theorem rsAcc_bd {want : List Int} {ps : List Ord} {vs : List Vis} {i : Int} {z : List Int} (hz : BdL 0 z) (hl : ∀ o ∈ ps, BdL 1000 o.load) : ∀ k : Nat, BdL ((k : Int) * 1000) (rsAcc want ps vs i z k).2
  | 0 => by simpa [rsAcc] using hz
  | k + 1 => by
    have ih := rsAcc_bd hz hl k (want := want) (vs := vs) (i := i)
    have hw : BdL (((k + 1 : Nat) : Int) * 1000) (rsAcc want ps vs i z k).2 := fun x hx => by have := ih x hx; push_cast; omega
    rw [rsAcc]
    cases want[k]? with
    | none => exact hw
    | some g =>
      cases ho : ps[k]? with
      | none => exact hw
      | some o =>
        simp only
        split
        · have h := addE_bd ih (hl o (List.mem_of_getElem? ho))
          have e : ((k + 1 : Nat) : Int) * 1000 = (k : Int) * 1000 + 1000 := by push_cast; omega
          rw [e]
          exact h
        · exact hw
/-- Where the reference's shares stands. -/
structure RhSt (W : World) (u : List Sha) (wr : World) (B : Option Addr) (d : Nat) (cs : List Value) : Prop where
  own : wr.ownsRow W.heap.size 54 2 (.slice B u.length d) u.length cs
  els : EG oSha wr (fun b => some b ≠ (Value.slice B u.length d).ownBlock ∧ W.heap.size ≤ b) cs u
  bel : Below W.heap.size W wr
section
variable {W : World} {u : List Sha} {wr wx : World} {B : Option Addr} {d : Nat} {cs : List Value}
theorem RhSt.nil (W : World) : RhSt W [] W none 0 [] := ⟨World.ownsRow_nil _ _ _ _, EG.nil, Below.refl _ _⟩
theorem RhSt.below (h : RhSt W u wr B d cs) (hb : Below wr.heap.size wr wx) : RhSt W u wx B d cs := ⟨own_below h.own hb, h.els.below hb, h.bel.trans (hb.mono h.bel.size)⟩
theorem RhSt.push (h : RhSt W u wr B d cs) {s : Sha} {C : Option Addr} {c0 g c : Nat} (hI : IntsOff wr (fun b => some b ≠ (Value.slice B u.length d).ownBlock ∧ W.heap.size ≤ b) C s.load) (hf : ShaFits s)
    (hown : wx.ownsRow W.heap.size 54 2 (.slice (some ⟨g, 0, none⟩) (u.length + 1) c) (u.length + 1) (cs ++ ShaCells s C c0)) (hg : wr.grownBy wx (Value.slice B u.length d).ownBlock) (hd : (Value.slice B u.length d).ownBlock = some g ∨ wr.heap.size ≤ g) :
    RhSt W (u ++ [s]) wx (some ⟨g, 0, none⟩) c (cs ++ ShaCells s C c0) := by
  refine ⟨by rw [List.length_append]; exact hown, ?_, h.bel.grown hg h.bel.size (fun q e => (World.ownsRow.lt h.own q e).1)⟩
  exact h.els.push (oSha_mk hI hf) hg hd
end
/-- What it hands back. -/
def RShsOut (w : World) (l : List Sha) (e : Ending) (w' : World) : Prop := ∃ A c cs, e = .returned (.slice A l.length c) ∧ w'.ownsRow w.heap.size 54 2 (.slice A l.length c) l.length cs ∧ EG oSha w' (fun b => w.heap.size ≤ b) cs l ∧ Below w.heap.size w w'
set_option maxRecDepth 20000 in
set_option maxHeartbeats 4000000 in
theorem rshares_any (x y : Ins) (P Q : InP) (A' : Option Addr) (c' : Nat) (org : List Int) (u0 u1 u2 : Value) (hu0 : u0.oneCell' = true) (hu1 : u1.oneCell' = true) (hu2 : u2.oneCell' = true) (A2 : Option Addr) (c2 : Nat) (vs : List Vis) (w : World)
    (h : InAt w w.heap.size x P) (hy : InAt w w.heap.size y Q) (hO : Ints w w.heap.size A' org) (hV : RowAt rVis w w.heap.size A2 vs) (hlen : org.length = y.orders.length) (hfew : y.orders.length ≤ 1000) (hfx : x.orders.length ≤ 1000) (hld : ∀ o ∈ y.orders, BdL 1000 o.load) (hlx : ∀ o ∈ x.orders, o.load.length ≤ 1000) :
    Calls Try.prog 38 #[InV x P, InV y Q, .slice A' org.length c', .agg #[u0, u1, u2, .slice A2 vs.length c2]] w (RShsOut w (rsTo x.orders org y.orders vs x.orders.length)) := by
  obtain ⟨W0, hW0⟩ : ∃ W0, ((w.alloc (.cells (insCs x P).toArray 38)).alloc (.cells (insCs y Q).toArray 38)).alloc (.cells #[u0, u1, u2, .slice A2 vs.length c2] 66) = W0 := ⟨_, rfl⟩
  have hB0 : Below w.heap.size w W0 := by rw [← hW0]; exact (((Below.refl _ _).alloc (Nat.le_refl _) _).alloc (by simp) _).alloc (by simp; omega) _
  have z0 := hB0.size
  have hs0 : w.heap.size + 2 < W0.heap.size := by rw [← hW0]; simp
  have b0 : SixAt W0 w.heap.size (insCs x P) := by
    rw [← hW0]
    unfold SixAt
    rw [Below.heap_alloc _ _ _ (by simp; omega), Below.heap_alloc _ _ _ (by simp)]
    exact World.alloc_heap_new w _
  have b1 : SixAt W0 (w.heap.size + 1) (insCs y Q) := by
    rw [← hW0]
    unfold SixAt
    rw [Below.heap_alloc _ _ _ (by simp)]
    have h := World.alloc_heap_new (w.alloc (.cells (insCs x P).toArray 38)) (.cells (insCs y Q).toArray 38)
    simpa using h
  have b2 : W0.heap[w.heap.size + 2]? = some (.cells #[u0, u1, u2, .slice A2 vs.length c2] 66 (0, 0)) := by
    rw [← hW0]
    have h := World.alloc_heap_new ((w.alloc (.cells (insCs x P).toArray 38)).alloc (.cells (insCs y Q).toArray 38)) (.cells #[u0, u1, u2, .slice A2 vs.length c2] 66)
    simpa using h
  obtain ⟨nx, hnx⟩ : ∃ n, x.orders.length = n := ⟨_, rfl⟩
  obtain ⟨ny, hny⟩ : ∃ n, y.orders.length = n := ⟨_, rfl⟩
  obtain ⟨m, hm⟩ : ∃ n, vs.length = n := ⟨_, rfl⟩
  have hW1 : ((w.alloc (.cells #[.slice P.a0 x.net.places.length P.c0, .slice P.a1 x.net.arcs.length P.c1, .slice P.a2 x.types.length P.c2, .slice P.a3 x.orders.length P.c3, .slice P.a4 x.apart.length P.c4, .slice P.a5 x.before.length P.c5] 38)).alloc (.cells #[.slice Q.a0 y.net.places.length Q.c0, .slice Q.a1 y.net.arcs.length Q.c1, .slice Q.a2 y.types.length Q.c2, .slice Q.a3 y.orders.length Q.c3, .slice Q.a4 y.apart.length Q.c4, .slice Q.a5 y.before.length Q.c5] 38)).alloc (.cells #[u0, u1, u2, .slice A2 vs.length c2] 66) = W0 := hW0
  rw [hnx, hny, hm] at hW1
  have HW1 := Lib.hid hW1
  have HX := Lib.hid (fun w' (h' : Below W0.heap.size W0 w') => (And.intro (show w'.cell? ⟨w.heap.size, 3, none⟩ = some (.slice P.a3 nx P.c3) by rw [← hnx]; exact (b0.below h').cell (j := 3) rfl) (And.intro (show w'.cell? ⟨w.heap.size + 1, 3, none⟩ = some (.slice Q.a3 ny Q.c3) by rw [← hny]; exact (b1.below h').cell (j := 3) rfl) (And.intro (show CellsAt w' ⟨w.heap.size + 2, 0, none⟩ [u0, u1, u2, .slice A2 m c2] by rw [← hm]; exact fun jj u hu => by rw [addr_add0]; unfold World.cell?; rw [(h'.block _ hs0).trans b2]; simpa using hu) (And.intro (h.orders.below (hB0.trans (h'.mono z0))) (And.intro (hy.orders.below (hB0.trans (h'.mono z0))) (And.intro (hO.below (hB0.trans (h'.mono z0))) (hV.below (hB0.trans (h'.mono z0))))))))))
  have HN := Lib.hid (And.intro hnx (And.intro hny (And.intro hm hlen)))
  have HLD := Lib.hid (And.intro hld hlx)
  have HU := Lib.hid (And.intro hu0 (And.intro hu1 hu2))
  rw [hny] at hfew hlen
  rw [hnx] at hfx
  simp only [InV]
  rw [hnx, hny, hm, hlen]
  clear hW0 hW1 b0 b1 b2 h hy hO hV hlen hld hlx hu0 hu1 hu2 hnx hny hm
  have x3 := (HX.out _ (Below.refl _ _)).1
  go_enter Try.func38, Try.ntmps38
  go_upto_region 1 with fail
  rw [HW1.out]
  go_wp2_with fail
  clear x3
  go_loopw [9, 10, 11, 12, 13, 14] (fun v i _ _ _ _ wr => ∃ (j : Nat) (u : List Sha) (B : Option Addr) (d : Nat) (cs : List Value), j ≤ nx ∧ i = .int .i64 j ∧ Hid (u = rsTo x.orders org y.orders vs j) ∧ v = .slice B u.length d ∧ Hid (RhSt W0 u wr B d cs)) (fun _ i _ _ _ _ _ => nx - (intOf i).toNat)
  case atStart => exact ⟨0, [], none, 0, [], by omega, rfl, Lib.hid rfl, rfl, Lib.hid (RhSt.nil _)⟩
  case round =>
    obtain ⟨j, u, B, d, cs, hj, rfl, hu, rfl, HS⟩ := hrel
    obtain ⟨W1, hW1⟩ : ∃ W1, W1 = wr := ⟨_, rfl⟩
    subst hW1
    have hul : u.length ≤ j := by rw [hu.out]; exact rsTo_len _ _ _ _ _
    have x3 := (HX.out _ HS.out.bel).1
    by_cases hlt : j < nx
    · obtain ⟨o, ho⟩ : ∃ o, x.orders[j]? = some o := ⟨_, List.getElem?_eq_getElem (by rw [HN.out.1]; exact hlt)⟩
      obtain ⟨ad, cs0, hA, hadb, hat, hcs⟩ := ((HX.out _ HS.out.bel).2.2.2.1).elem ho
      obtain ⟨C, cc, rfl, hI, hf⟩ := rOrd_at hat
      have HOO := Lib.hid ho
      obtain ⟨p, hp⟩ : ∃ p, o.load.length = p := ⟨_, rfl⟩
      have hp9 : p ≤ 1000 := by rw [← hp]; exact HLD.out.2 o (List.mem_of_getElem? ho)
      have HP := Lib.hid hp
      have hj0 : (0 : Int) ≤ (j : Int) := by omega
      have hjn : (j : Int) < (nx : Int) := by omega
      have hzW := HS.out.bel.size
      have l1 : W1.cell? ⟨(ad.add (j * 16)).block, (ad.add (j * 16)).off + 1, none⟩ = some (.slice C p cc) := by rw [← hp]; exact hcs 1 _ rfl
      have HL1 := Lib.hid l1
      rw [hA] at x3 ⊢
      clear ho hat hcs hI hf hp
      go_upto_region 8 with fail
      go_loopw [12, 13] (fun v q wr => ∃ (k : Nat) (C0 : Option Addr) (d0 : Nat), k ≤ p ∧ q = .int .i64 k ∧ v = .slice C0 k d0 ∧ wr.ownsRow W1.heap.size 3 1 (.slice C0 k d0) k ((List.replicate k (0 : Int)).map (.int .i64)) ∧ Below W1.heap.size W1 wr) (fun _ q _ => p - (intOf q).toNat)
      case atStart => exact ⟨0, none, 0, by omega, rfl, rfl, World.ownsRow_nil _ _ _ _, Below.refl _ _⟩
      case round =>
        obtain ⟨k, C0, d0, hk, rfl, rfl, hown, hb⟩ := hrel
        have hbW : Below W0.heap.size W0 wr := HS.out.bel.trans (hb.mono hzW)
        have HBW := Lib.hid hbW
        have x3' : wr.cell? ⟨w.heap.size, 3, none⟩ = some (.slice (some ad) nx P.c3) := by rw [← hA]; exact (HX.out _ hbW).1
        have l1' : wr.cell? ⟨(ad.add (j * 16)).block, (ad.add (j * 16)).off + 1, none⟩ = some (.slice C p cc) := (hb.cell (p := ⟨(ad.add (j * 16)).block, (ad.add (j * 16)).off + 1, none⟩) (by show (ad.add (j * 16)).block < _; rw [block_of_add]; omega)).trans HL1.out
        have hz9 := hb.size
        clear hbW
        by_cases hkp : k < p
        · have bl : Below wr.heap.size wr (wr.alloc (.cells #[.int .i64 0] 3)) := (Below.refl _ _).alloc (Nat.le_refl _) _
          have HOw := Lib.hid (own_below hown bl)
          have HBl := Lib.hid (hb.trans (bl.mono hz9))
          have hsz : W1.heap.size ≤ (wr.alloc (.cells #[.int .i64 0] 3)).heap.size := HBl.out.size
          have HSZ := Lib.hid hsz
          clear bl hown hsz
          go_wp2_with (at_builtin; go_loud (refine wpList_app int_elem _ _ rfl W1.heap.size C0 k d0 ((List.replicate k (0 : Int)).map (.int .i64)) rfl HOw.out ⟨wr.heap.size, 0, none⟩ 1 [.int .i64 0] rfl rfl (cell_one_new _ _ _) (fun u hu => by rw [List.mem_singleton] at hu; rw [hu]; rfl) (by omega) HSZ.out rfl ?_); intro g9 c9 w9 hown9 hg9 hd9; have HZ9 := Lib.hid (And.intro hown9 hg9); clear hown9 hg9 hd9)
          have hro : (List.replicate (k + 1) (0 : Int)).map (Value.int .i64) = (List.replicate k (0 : Int)).map (Value.int .i64) ++ [Value.int .i64 0] := by rw [List.replicate_succ', List.map_append]; rfl
          exact ⟨⟨k + 1, some ⟨g9, 0, none⟩, c9, by omega, by go_num, rfl, by rw [hro]; exact HZ9.out.1, HBl.out.grown HZ9.out.2 HSZ.out (fun q e => own_base HOw.out q e)⟩, by simp [intOf]; omega⟩
        · have hkp' : k = p := by omega
          subst hkp'
          clear hkp
          have hI0 : IntsOff wr (fun b => W1.heap.size ≤ b) C0 (List.replicate k (0 : Int)) := by
            refine IntsOff.own (c := d0) (base := W1.heap.size) (e := 3) ?_ (by simp; omega) (fun b hb => hb)
            simpa using hown
          have HI0 := Lib.hid hI0
          have HS0 := Lib.hid (HS.out.below hb)
          clear hown hI0
          go_upto_region 12 with fail
          clear x3' l1'
          obtain ⟨W2, hW2⟩ : ∃ W2, W2 = wr := ⟨_, rfl⟩
          subst hW2
          go_loopw [11, 12, 14] (fun any sum q wq => ∃ (t : Nat) (C1 : Option Addr) (d1 : Nat), t ≤ ny ∧ q = .int .i64 t ∧ any = .bool (rsAcc org y.orders vs (j : Int) (List.replicate k 0) t).1 ∧ sum = .slice C1 (rsAcc org y.orders vs (j : Int) (List.replicate k 0) t).2.length d1 ∧ Hid (IntsOff wq (fun b => W1.heap.size ≤ b) C1 (rsAcc org y.orders vs (j : Int) (List.replicate k 0) t).2) ∧ Hid (Below W1.heap.size W1 wq)) (fun _ _ q _ => ny - (intOf q).toNat)
          case atStart => exact ⟨0, C0, d0, by omega, rfl, rfl, by show _ = Value.slice C0 (List.replicate k (0 : Int)).length d0; rw [List.length_replicate], HI0, Lib.hid hb⟩
          case round =>
            obtain ⟨t, C1, d1, ht, rfl, rfl, rfl, hIS, hBq⟩ := hrel
            obtain ⟨W3, hW3⟩ : ∃ W3, W3 = wr := ⟨_, rfl⟩
            subst hW3
            have hbW : Below W0.heap.size W0 W3 := HS.out.bel.trans (hBq.out.mono hzW)
            have HB3 := Lib.hid hbW
            by_cases htn : t < ny
            · obtain ⟨q, hq⟩ : ∃ q, y.orders[t]? = some q := ⟨_, List.getElem?_eq_getElem (by rw [HN.out.2.1]; exact htn)⟩
              obtain ⟨ad1, g, hA1, hadb1, hg, hcg⟩ := ((HX.out _ hbW).2.2.2.2.2.1).at_ (k := t) (by rw [HN.out.2.2.2, HN.out.2.1]; exact htn)
              have ht0 : (0 : Int) ≤ (t : Int) := by omega
              have htn' : (t : Int) < (ny : Int) := by omega
              rw [hA1]
              by_cases hgj : g = (j : Int)
              · have hgb : (g == (j : Int)) = true := by rw [hgj]; simp
                have HG := Lib.hid (And.intro hg hq)
                obtain ⟨ad2, cs2, hA2, hadb2, hat2, hcs2⟩ := ((HX.out _ hbW).2.2.2.2.1).elem hq
                obtain ⟨Cq, cq, rfl, hIq, hfq⟩ := rOrd_at hat2
                have HQ := Lib.hid (And.intro hIq (show W3.cell? ⟨(ad2.add (t * 16)).block, (ad2.add (t * 16)).off + 1, none⟩ = some (.slice Cq q.load.length cq) from hcs2 1 _ rfl))
                have HVV := Lib.hid ((HX.out _ hbW).2.2.2.2.2.2.more (show w.heap.size ≤ W3.heap.size by have := hbW.size; omega))
                clear hq hg hat2 hcs2 hIq hfq
                rw [hgj] at hcg
                rw [hA2]
                have HA2 := Lib.hid hA2
                clear hA2
                go_wp2_with ((with_reducible refine wpList_loadG stRou _ rfl ⟨w.heap.size + 2, 0, none⟩ [u0, u1, u2, .slice A2 m c2] ?_ ?_ ?_ ?_ ?_); exact rfl; exact rfl; exact (HX.out _ HB3.out).2.2.1; exact rfl)
                have hvis := rvisited_any u0 u1 u2 A2 c2 vs t W3 HVV.out
                rw [HN.out.2.2.1] at hvis
                refine hvis.mono ?_
                clear hvis
                rintro e w4 ⟨rfl, b4⟩
                cases hse : seenB vs t
                · have HNO : Hid (rsAcc org y.orders vs (j : Int) (List.replicate k 0) (t + 1) = rsAcc org y.orders vs (j : Int) (List.replicate k 0) t) := Lib.hid (rsAcc_no HG.out.1 (fun h => by rw [hse] at h; cases h.2))
                  have HI4 := Lib.hid (IntsOff.keep hIS.out b4.size (fun b hb hp => ⟨hp, b4.block b hb⟩))
                  have HB4 := Lib.hid (hBq.out.trans (b4.mono hBq.out.size))
                  clear hse
                  go_wp2_with fail
                  exact ⟨⟨t + 1, C1, d1, by omega, by go_num, by rw [HNO.out], by rw [HNO.out], by rw [HNO.out]; exact HI4, HB4⟩, by simp [intOf]; omega⟩
                · have HYES : Hid (rsAcc org y.orders vs (j : Int) (List.replicate k 0) (t + 1) = (true, addE (rsAcc org y.orders vs (j : Int) (List.replicate k 0) t).2 q.load)) := Lib.hid (rsAcc_yes HG.out.1 HG.out.2 hgj hse)
                  have HB4 := Lib.hid (hBq.out.trans (b4.mono hBq.out.size))
                  have hb4W : Below W0.heap.size W0 w4 := HB3.out.trans (b4.mono HB3.out.size)
                  have HI4 := Lib.hid (IntsOff.keep hIS.out b4.size (fun b hb hp => ⟨hp, b4.block b hb⟩))
                  have x4 : w4.cell? ⟨w.heap.size + 1, 3, none⟩ = some (.slice (some ad2) ny Q.c3) := by rw [← HA2.out]; exact (HX.out _ hb4W).2.1
                  have l4 : w4.cell? ⟨(ad2.add (t * 16)).block, (ad2.add (t * 16)).off + 1, none⟩ = some (.slice Cq q.load.length cq) := (b4.cell (p := ⟨(ad2.add (t * 16)).block, (ad2.add (t * 16)).off + 1, none⟩) (by show (ad2.add (t * 16)).block < _; rw [block_of_add]; have := HB3.out.size; omega)).trans HQ.out.2
                  have hIq4 : Ints w4 w4.heap.size Cq q.load := (HQ.out.1.below (b4.mono (by have := HB3.out.size; omega))).more (by have := HB3.out.size; have := b4.size; omega)
                  have hbd := rsAcc_bd (want := org) (ps := y.orders) (vs := vs) (i := (j : Int)) (z := List.replicate k 0) (fun x hx => by rw [List.eq_of_mem_replicate hx]; omega) HLD.out.1 t
                  have HADD := Lib.hid (radd_any C1 d1 (rsAcc org y.orders vs (j : Int) (List.replicate k 0) t).2 Cq cq q.load w4 HI4.out.1 hIq4 (bd_inM hbd (by omega)) (bd_inM (HLD.out.1 q (List.mem_of_getElem? HG.out.2)) (by omega)))
                  clear hse hb4W hIq4 hbd
                  go_wp2_with fail
                  refine HADD.out.mono ?_
                  rintro e w5 ⟨A9, c9, er, rfl, hown5, b5⟩
                  have HB5 := Lib.hid (HB4.out.trans (b5.mono HB4.out.size))
                  have HI5 : Hid (IntsOff w5 (fun b => W1.heap.size ≤ b) A9 (addE (rsAcc org y.orders vs (j : Int) (List.replicate k 0) t).2 q.load)) := Lib.hid (IntsOff.own hown5 (Nat.le_trans (addE_len _ _) HQ.out.1.len) (fun b hb => Nat.le_trans HB4.out.size hb))
                  clear hown5 b5 x4 l4
                  go_wp2_with fail
                  exact ⟨⟨t + 1, A9, c9, by omega, by go_num, by rw [HYES.out], by rw [HYES.out], by rw [HYES.out]; exact HI5, HB5⟩, by simp [intOf]; omega⟩
              · have hgb : (g == (j : Int)) = false := by rw [beq_eq_false_iff_ne]; exact hgj
                have HNO : Hid (rsAcc org y.orders vs (j : Int) (List.replicate k 0) (t + 1) = rsAcc org y.orders vs (j : Int) (List.replicate k 0) t) := Lib.hid (rsAcc_no hg (fun h => hgj h.1))
                clear hq hg
                go_wp2_with fail
                exact ⟨⟨t + 1, C1, d1, by omega, by go_num, by rw [HNO.out], by rw [HNO.out], by rw [HNO.out]; exact hIS, hBq⟩, by simp [intOf]; omega⟩
            · have htn' : t = ny := by omega
              subst htn'
              clear htn
              have HNX : Hid (rsTo x.orders org y.orders vs (j + 1) = rsNext (j : Int) u (rsAcc org y.orders vs (j : Int) (List.replicate k 0) t)) := Lib.hid (by
                rw [rsTo, HOO.out]
                show rsNext _ _ (rsAcc org y.orders vs (j : Int) (List.replicate o.load.length 0) org.length) = _
                rw [HP.out, HN.out.2.2.2, HN.out.2.1, hu.out])
              obtain ⟨r, hr⟩ : ∃ r, rsAcc org y.orders vs (j : Int) (List.replicate k 0) t = r := ⟨_, rfl⟩
              rw [hr] at HNX hIS ⊢
              clear hr
              obtain ⟨b, S⟩ := r
              have HSb := Lib.hid (HS.out.below hBq.out)
              have hlt9 : ∀ q, (Value.slice B u.length d).ownBlock = some q → q < W1.heap.size := fun q e => (World.ownsRow.lt HS.out.own q e).2
              have bl : Below W3.heap.size W3 (W3.alloc (.cells #[.int .i64 (j : Int), .slice C1 S.length d1] 54)) := (Below.refl _ _).alloc (Nat.le_refl _) _
              have HSl := Lib.hid (HSb.out.below bl)
              have HIl : Hid (IntsOff (W3.alloc (.cells #[.int .i64 (j : Int), .slice C1 S.length d1] 54)) (fun b => some b ≠ (Value.slice B u.length d).ownBlock ∧ W0.heap.size ≤ b) C1 S) := Lib.hid (IntsOff.keep hIS.out bl.size (fun b hb hp => ⟨⟨fun e => by have := hlt9 b e.symm; omega, by omega⟩, bl.block b hb⟩))
              have HSZ : Hid (W0.heap.size ≤ (W3.alloc (.cells #[.int .i64 (j : Int), .slice C1 S.length d1] 54)).heap.size) := Lib.hid HSl.out.bel.size
              have x3q := (HX.out _ HB3.out).2.2.2.2.2.1.len
              clear bl hlt9 hbW
              cases b
              · go_wp2_with fail
                exact ⟨⟨j + 1, u, B, d, cs, by omega, by go_num, Lib.hid (by rw [HNX.out]; rfl), rfl, HSb⟩, by simp [intOf]; omega⟩
              · go_wp2_with (at_builtin; go_loud (refine wpList_app rsha_elem _ _ rfl W0.heap.size B u.length d cs rfl HSl.out.own ⟨W3.heap.size, 0, none⟩ 1 [.int .i64 (j : Int), .slice C1 S.length d1] rfl rfl (two_new W3 (.int .i64 (j : Int)) (.slice C1 S.length d1) _) (fun u hu => by simp only [List.mem_cons, List.not_mem_nil, or_false] at hu; rcases hu with rfl | rfl <;> rfl) (by omega) HSZ.out rfl ?_); intro g9 c9 w9 hown9 hg9 hd9; have HP9 := Lib.hid (HSl.out.push (s := ⟨(j : Int), S⟩) (c0 := d1) HIl.out (by show -9223372036854775808 ≤ (j : Int) ∧ (j : Int) ≤ 9223372036854775807; omega) hown9 hg9 hd9); clear hown9 hg9 hd9)
                exact ⟨⟨j + 1, u ++ [⟨(j : Int), S⟩], some ⟨g9, 0, none⟩, c9, _, by omega, by go_num, Lib.hid (by rw [HNX.out]; rfl), by rw [List.length_append]; rfl, HP9⟩, by simp [intOf]; omega⟩
    · have hjn : j = nx := by omega
      subst hjn
      clear hlt
      have HUU : Hid (rsTo x.orders org y.orders vs j = u) := Lib.hid hu.out.symm
      go_wp2_with fail
      go_ret
      rw [HUU.out]
      exact ⟨B, d, cs, rfl, own_less HS.out.own z0, HS.out.els.weak (fun b _ hb => Nat.le_trans z0 hb.2), hB0.trans (HS.out.bel.mono z0)⟩
end Go.Proofs.Ytceceomaheobhaa.spl
