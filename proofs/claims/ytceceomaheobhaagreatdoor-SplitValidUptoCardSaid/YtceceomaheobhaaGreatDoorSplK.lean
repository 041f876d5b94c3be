/- split.Merge. -/
import Derived.Test.YtceceomaheobhaaGreatDoorSplF
import Derived.Test.YtceceomaheobhaaGreatDoorSplJ
import Derived.Test.YtceceomaheobhaaGreatDoorSpR
namespace Go.Proofs.YtceceomaheobhaaGreatDoor.spl
open Go.RowKit
open Go.Proofs.YtceceomaheobhaaGreatDoor.lib Go.Proofs.YtceceomaheobhaaGreatDoor.rd Go.Proofs.YtceceomaheobhaaGreatDoor.app Go.Proofs.YtceceomaheobhaaGreatDoor.els Go.Proofs.YtceceomaheobhaaGreatDoor.loads Go.Proofs.YtceceomaheobhaaGreatDoor.typ Go.Proofs.YtceceomaheobhaaGreatDoor.big Go.Proofs.YtceceomaheobhaaGreatDoor.ins Go.Proofs.YtceceomaheobhaaGreatDoor.ord Go.Proofs.YtceceomaheobhaaGreatDoor.flts Go.Proofs.YtceceomaheobhaaGreatDoor.off Go.Proofs.YtceceomaheobhaaGreatDoor.eqs
set_option linter.unusedVariables false
set_option linter.unusedSimpArgs false

def mgGo (f : Rou → Option (List Sha)) : List Rou → List (List Sha) → Option (List (List Sha))
  | [], acc => some acc
  | r :: rs, acc => match f r with
    | none => none
    | some l => mgGo f rs (acc ++ [l])
def mgEnd : Option (List (List Sha)) → Except Int (List (List Sha))
  | some ll => .ok ll
  | none => .error 2
def mgF (y : Ins) (want : List Int) (r : Rou) : Option (List Sha) := shF y.orders want r.visits
def mergeG (org : List Int) (rs : List Rou) : Except Int (Ins × List Int) → Except Int (List (List Sha))
  | .error e => .error e
  | .ok (y, want) => if org = want then mgEnd (mgGo (mgF y want) rs []) else .error 2
/-- What Merge answers. -/
def mergeF (x : Ins) (org : List Int) (rs : List Rou) : Except Int (List (List Sha)) := mergeG org rs (expF x)
theorem mgGo_at {f : Rou → Option (List Sha)} {rs : List Rou} {k : Nat} {r : Rou} {acc : List (List Sha)} (h : rs[k]? = some r) : mgGo f (rs.drop k) acc = match f r with | none => none | some l => mgGo f (rs.drop (k + 1)) (acc ++ [l]) := by
  rw [drop_at' h, mgGo]
/-- What an expanded instance is like. -/
structure ExpGood (y : Ins) (want : List Int) : Prop where
  len : want.length = y.orders.length
  few : y.orders.length ≤ 1000
  load : ∀ o ∈ y.orders, BdL 1000 o.load
  dims : ∀ o ∈ y.orders, o.load.length ≤ 1000000
  org : ∀ g ∈ want, -9223372036854775808 ≤ g ∧ g ≤ 9223372036854775807
def MergeOut (w : World) (r : Except Int (List (List Sha))) (e : Ending) (w' : World) : Prop := match r with
  | .error k => e = .returned (.tuple #[.slice none 0 0, .int .i64 k]) ∧ Below w.heap.size w w'
  | .ok ll => ∃ A c cs, e = .returned (.tuple #[.slice A ll.length c, .int .i64 0]) ∧ w'.ownsRow w.heap.size 85 1 (.slice A ll.length c) ll.length cs ∧ EG (oSlice oSha) w' (fun b => w.heap.size ≤ b) cs ll ∧ Below w.heap.size w w'
theorem shs_elem : ElemOf 82 85 (.slice none 0 0) 1 24 := ⟨Tryz.underlying82, by kernel_rfl, rfl, by decide, by decide⟩
/-- Where Merge stands. -/
structure MgSt (W : World) (ll : List (List Sha)) (wr : World) (B : Option Addr) (d : Nat) (cs : List Value) : Prop where
  own : wr.ownsRow W.heap.size 85 1 (.slice B ll.length d) ll.length cs
  els : EG (oSlice oSha) wr (fun b => some b ≠ (Value.slice B ll.length d).ownBlock ∧ W.heap.size ≤ b) cs ll
  bel : Below W.heap.size W wr
section
variable {W : World} {ll : List (List Sha)} {wr wx : World} {B : Option Addr} {d : Nat} {cs : List Value}
theorem MgSt.nil (W : World) : MgSt W [] W none 0 [] := ⟨World.ownsRow_nil _ _ _ _, EG.nil, Below.refl _ _⟩
theorem MgSt.below (h : MgSt W ll wr B d cs) (hb : Below wr.heap.size wr wx) : MgSt W ll wx B d cs := ⟨own_below h.own hb, h.els.below hb, h.bel.trans (hb.mono h.bel.size)⟩
theorem MgSt.push (h : MgSt W ll wr B d cs) {l : List Sha} {C : Option Addr} {c0 g c : Nat} (hI : RowOff oSha wr (fun b => some b ≠ (Value.slice B ll.length d).ownBlock ∧ W.heap.size ≤ b) C l)
    (hown : wx.ownsRow W.heap.size 85 1 (.slice (some ⟨g, 0, none⟩) (ll.length + 1) c) (ll.length + 1) (cs ++ [.slice C l.length c0])) (hg : wr.grownBy wx (Value.slice B ll.length d).ownBlock) (hd : (Value.slice B ll.length d).ownBlock = some g ∨ wr.heap.size ≤ g) :
    MgSt W (ll ++ [l]) wx (some ⟨g, 0, none⟩) c (cs ++ [.slice C l.length c0]) := by
  refine ⟨by rw [List.length_append]; exact hown, ?_, h.bel.grown hg h.bel.size (fun q e => (World.ownsRow.lt h.own q e).1)⟩
  exact h.els.push ⟨C, c0, rfl, hI⟩ hg hd
end
theorem shF_len {os : List Ord} {org : List Int} {vs : List Vis} {l : List Sha} (h : shF os org vs = some l) : l.length ≤ os.length := by
  unfold shF at h
  split at h
  · injection h with h
    rw [← h]
    exact shTo_len _ _ _ _
  · cases h
theorem namedE_pos {os out : List Ord} {nm : ByteArray} : 0 ≤ namedE os out nm := by unfold namedE; split <;> (try split) <;> omega
theorem expPs_err {os : List Ord} {i : Int} {sp : Bool} : ∀ {ps out : List Ord} {org : List Int} {k : Int}, expPs os i sp ps out org = .error k → k ≠ 0
  | [], _, _, _, h => by simp [expPs] at h
  | p :: ps, out, org, k, h => by
    rw [expPs] at h
    split at h
    · rename_i h1
      injection h with h
      rw [← h]
      exact h1.2
    · exact expPs_err h
theorem expOs_err {os : List Ord} : ∀ {rest : List Ord} {i : Nat} {out : List Ord} {org : List Int} {k : Int}, expOs os rest i out org = .error k → k ≠ 0
  | [], _, _, _, _, h => by simp [expOs] at h
  | o :: rest, i, out, org, k, h => by
    rw [expOs] at h
    split at h
    · injection h with h
      omega
    · split at h
      · rename_i e he
        injection h with h
        subst h
        exact expPs_err he
      · exact expOs_err h
theorem expF_err {x : Ins} {k : Int} (h : expF x = .error k) : k ≠ 0 := by
  unfold expF at h
  split at h
  · injection h with h; omega
  · unfold expFin at h
    split at h
    · rename_i e he
      injection h with h
      subst h
      exact expOs_err he
    · split at h
      · injection h with h; omega
      · cases h
set_option maxRecDepth 100000 in
set_option maxHeartbeats 4000000 in
theorem merge_any (x : Ins) (P : InP) (A' : Option Addr) (c' : Nat) (org : List Int) (AR : Option Addr) (cR : Nat) (rs : List Rou) (u1 : Value) (w : World)
    (h : InAt w w.heap.size x P) (hl : ExpLim x) (hO : Ints w w.heap.size A' org) (hV : RowAt rRou w w.heap.size AR rs) (hrs : rs.length ≤ 1000000) (hg : ∀ y want, expF x = .ok (y, want) → ExpGood y want) :
    Calls Tryz.prog 43 #[InV x P, .slice A' org.length c', .agg #[.slice AR rs.length cR, u1]] w (MergeOut w (mergeF x org rs)) := by
  obtain ⟨W0, hW0⟩ : ∃ W0, (w.alloc (.cells (insCs x P).toArray 30)).alloc (.cells #[.slice AR rs.length cR, u1] 81) = W0 := ⟨_, rfl⟩
  have hB0 : Below w.heap.size w W0 := by rw [← hW0]; exact ((Below.refl _ _).alloc (Nat.le_refl _) _).alloc (by simp) _
  have z0 := hB0.size
  have hs0 : w.heap.size + 1 < W0.heap.size := by rw [← hW0]; simp
  have b0 : SixAt W0 w.heap.size (insCs x P) := by
    rw [← hW0]
    unfold SixAt
    rw [Below.heap_alloc _ _ _ (by simp)]
    exact World.alloc_heap_new w _
  have v0 : W0.cell? ⟨w.heap.size + 1, 0, none⟩ = some (.slice AR rs.length cR) := by
    rw [← hW0]
    have h := World.alloc_heap_new (w.alloc (.cells (insCs x P).toArray 30)) (.cells #[.slice AR rs.length cR, u1] 81)
    rw [show (w.alloc (.cells (insCs x P).toArray 30)).heap.size = w.heap.size + 1 by simp] at h
    unfold World.cell?
    rw [h]
    rfl
  have HX := Lib.hid (fun w' (h' : Below W0.heap.size W0 w') => (And.intro (b0.below h') (And.intro (h.below (hB0.trans (h'.mono z0))) (And.intro (hO.below (hB0.trans (h'.mono z0))) (hV.below (hB0.trans (h'.mono z0)))))))
  have hW1 : (w.alloc (.cells #[.slice P.a0 x.net.places.length P.c0, .slice P.a1 x.net.arcs.length P.c1, .slice P.a2 x.types.length P.c2, .slice P.a3 x.orders.length P.c3, .slice P.a4 x.apart.length P.c4, .slice P.a5 x.before.length P.c5] 30)).alloc (.cells #[.slice AR rs.length cR, u1] 81) = W0 := hW0
  have HW1 := Lib.hid hW1
  have HL := Lib.hid (And.intro hl hg)
  have B00 : Below W0.heap.size W0 W0 := Below.refl _ _
  have HXI : Hid (InAt W0 W0.heap.size x P) := Lib.hid ((HX.out _ B00).2.1.more z0)
  clear hW0 hW1 h hO hV b0 hl hg
  simp only [InV]
  go_enter Tryz.func43, Tryz.ntmps43
  go_upto_region 1 with fail
  rw [HW1.out]
  clear HW1
  go_wp2_with ((with_reducible refine wpList_loadG stIns _ rfl ⟨w.heap.size, 0, none⟩ (insCs (x) P) ?_ ?_ ?_ ?_ ?_); exact rfl; exact rfl; exact (HX.out _ B00).1.cells; exact rfl)
  refine (expand_any x P W0 HXI.out HL.out.1).mono ?_
  obtain ⟨ER, hER⟩ : ∃ ER, expF x = ER := ⟨_, rfl⟩
  have HME : Hid (mergeF x org rs = mergeG org rs ER) := Lib.hid (by unfold mergeF; rw [hER])
  have HGD : Hid (∀ y want, ER = .ok (y, want) → ExpGood y want) := Lib.hid (by rw [← hER]; exact HL.out.2)
  have HNZ : Hid (∀ k, ER = .error k → k ≠ 0) := Lib.hid (fun k e => expF_err (hER.trans e))
  rw [hER]
  clear hER
  obtain ⟨m, hm⟩ : ∃ m, rs.length = m := ⟨_, rfl⟩
  have HM := Lib.hid hm
  rw [hm] at v0 hrs
  clear hm
  rcases ER with k | ⟨y, want⟩
  · rintro e w1 ⟨rfl, b1⟩
    have hk0 := HNZ.out k rfl
    have hk1 : (k != 0) = true := by simp [hk0]
    have hk2 : (k == 0) = false := by simp [hk0]
    have z1 := b1.size
    clear hk0 v0
    go_wp2_with ((with_reducible refine wpList_storeL stIns rfl _ _ rfl w1.heap.size nilCs nilCs ?_ ?_ ?_ ?_ ?_ nilCs_one ?_); exact rfl; exact rfl; exact World.alloc_heap_new w1 _; exact rfl; exact rfl; intro w2 k1 k2 k3 k4; have K := Lib.hid (And.intro k1 (And.intro k2 (And.intro k3 k4))); clear k1 k2 k3 k4)
    go_ret2
    rw [HME.out]
    obtain ⟨k1, k2, k3, k4⟩ := K.out
    exact ⟨rfl, hB0.trans ((b1.trans ((((Below.refl _ _).alloc (Nat.le_refl _) _).trans k4).mono z1)).mono z0)⟩
  · rintro e w1 ⟨Q, A3, c3, rfl, hI1, hw1, b1⟩
    have z1 := b1.size
    have HI1 := Lib.hid (And.intro hI1 hw1)
    obtain ⟨hg1, hg2, hg3, hg4, hg5⟩ := HGD.out y want rfl
    have HGG := Lib.hid (And.intro hg1 (And.intro hg2 (And.intro hg3 (And.intro hg4 hg5))))
    clear hI1 hw1 hg1 hg2 hg3 hg4 hg5
    go_upto_region 2 with ((with_reducible refine wpList_storeL stIns rfl _ _ rfl w1.heap.size nilCs (insCs y Q) ?_ ?_ ?_ ?_ ?_ (insCs_one _ _) ?_); exact rfl; exact rfl; exact World.alloc_heap_new w1 _; exact rfl; exact rfl; intro w2 k1 k2 k3 k4; have K := Lib.hid (And.intro k1 (And.intro k2 (And.intro k3 k4))); clear k1 k2 k3 k4)
    obtain ⟨k1, k2, k3, k4⟩ := K.out
    have b2 : Below w1.heap.size w1 w2 := ((Below.refl _ _).alloc (Nat.le_refl _) _).trans k4
    have hp2 : w1.heap.size < w2.heap.size := (Array.getElem?_eq_some_iff.1 k1).1
    have HY2 : Hid (SixAt w2 w1.heap.size (insCs y Q)) := Lib.hid k1
    obtain ⟨p, hp⟩ : ∃ p, w1.heap.size = p := ⟨_, rfl⟩
    have HI2 := Lib.hid (And.intro (HI1.out.1.go b2) ((HI1.out.2.below b2).more b2.size))
    rw [hp] at HY2 hp2 b2 z1 ⊢
    have bW2 : Below W0.heap.size W0 w2 := b1.trans (b2.mono (by omega))
    have v2 : w2.cell? ⟨w.heap.size + 1, 0, none⟩ = some (.slice AR m cR) := (bW2.cell (p := ⟨w.heap.size + 1, 0, none⟩) hs0).trans v0
    have HO2 : Hid (Ints w2 w2.heap.size A' org) := Lib.hid ((HX.out _ bW2).2.2.1.more (Nat.le_trans z0 bW2.size))
    have HB2 := Lib.hid bW2
    clear k1 k2 k3 k4 b1 b2 K hp HI1 v0 bW2 HXI
    go_wp2_with fail
    refine (equal_any A' c' org _ rfl A3 c3 want _ rfl w2 _ _ (Nat.le_refl _) (Nat.le_refl _) HO2.out HI2.out.2).mono ?_
    rintro e w3 ⟨rfl, b3⟩
    have z3 := b3.size
    by_cases heq : org = want
    · have hsb : eqs.sameB org want = true := by unfold eqs.sameB; rw [heq]; simp
      have HMG : Hid (mergeF x org rs = mgEnd (mgGo (mgF y want) (rs.drop 0) [])) := Lib.hid (by rw [HME.out]; show (if org = want then mgEnd (mgGo (mgF y want) rs []) else .error 2) = _; rw [if_pos heq]; rfl)
      rw [hsb]
      subst heq
      have v3 : w3.cell? ⟨w.heap.size + 1, 0, none⟩ = some (.slice AR m cR) := (b3.cell (p := ⟨w.heap.size + 1, 0, none⟩) (by show w.heap.size + 1 < _; omega)).trans v2
      have HI3 := Lib.hid (fun w' (h' : Below w3.heap.size w3 w') => And.intro (HI2.out.1.go (b3.trans (h'.mono z3))) (And.intro (HY2.out.below (b3.trans (h'.mono z3))) (And.intro (((HX.out _ ((HB2.out.trans (b3.mono HB2.out.size)).trans (h'.mono (by omega)))).2.2.2)) ((HX.out _ ((HB2.out.trans (b3.mono HB2.out.size)).trans (h'.mono (by omega)))).2.2.1))))
      have hBW : Below w.heap.size w w3 := hB0.trans ((HB2.out.trans (b3.mono HB2.out.size)).mono z0)
      clear hsb v2 HO2 HME b3 HX HY2 HI2
      go_upto_region 8 with fail
      clear v3
      have zw := hBW.size
      go_loopw [11, 13, 14, 15, 32] (fun v _ _ _ i wr => ∃ (j : Nat) (ll : List (List Sha)) (B : Option Addr) (d : Nat) (cs : List Value), j ≤ m ∧ i = .int .i64 j ∧ Hid (mergeF x org rs = mgEnd (mgGo (mgF y org) (rs.drop j) ll)) ∧ Hid (ll.length = j) ∧ v = .slice B j d ∧ Hid (MgSt w3 ll wr B d cs)) (fun _ _ _ _ i _ => m - (intOf i).toNat)
      case atStart => exact ⟨0, [], none, 0, [], by omega, rfl, HMG, Lib.hid rfl, rfl, Lib.hid (MgSt.nil _)⟩
      case round =>
        clear HMG
        obtain ⟨j, ll, B, d, cs, hj, rfl, hmg, hlj, rfl, HS⟩ := hrel
        by_cases hlt : j < m
        · obtain ⟨r, hr⟩ : ∃ r, rs[j]? = some r := ⟨_, List.getElem?_eq_getElem (by rw [HM.out]; exact hlt)⟩
          obtain ⟨ad, cs0, rfl, hadb, hat, hcs⟩ := ((HI3.out _ HS.out.bel).2.2.1).elem hr
          obtain ⟨v0, C, c, rfl, hvis, hv1⟩ := rRou_at hat
          have HT := Lib.hid (mgGo_at (f := mgF y org) (acc := ll) hr)
          have HC := Lib.hid hcs
          have HV := Lib.hid hvis
          have hzr := HS.out.bel.size
          have hj0 : (0 : Int) ≤ (j : Int) := by omega
          have hjn : (j : Int) < (m : Int) := by omega
          clear hr hat hcs hvis
          go_upto_region 10 with (first
            | ((with_reducible refine wpList_loadG stRou _ rfl (ad.add (j * 4)) (RouCells r v0 C c) ?_ ?_ ?_ ?_ ?_); exact rfl; exact rfl; exact HC.out; exact rfl)
            | ((with_reducible refine wpList_storeL stRou rfl _ _ rfl wr.heap.size [.int .i64 0, .int .i64 0, .slice none 0 0, .slice none 0 0] (RouCells r v0 C c) ?_ ?_ ?_ ?_ ?_ (rouCells_one _ _ _ hv1) ?_); exact rfl; exact rfl; exact World.alloc_heap_new wr _; exact rfl; exact rfl; intro w4 k1 k2 k3 k4; have K := Lib.hid (And.intro k1 (And.intro k2 (And.intro k3 k4))); clear k1 k2 k3 k4))
          (try simp only [Act.put, List.getElem_toArray, List.getElem_cons_succ, List.getElem_cons_zero, List.setIfInBounds_toArray, List.set_cons_zero, List.set_cons_succ])
          obtain ⟨k1, k2, k3, k4⟩ := K.out
          have b4 : Below wr.heap.size wr w4 := ((Below.refl _ _).alloc (Nat.le_refl _) _).trans k4
          have z4 := b4.size
          have HR4 : Hid (CellsAt w4 ⟨wr.heap.size, 0, none⟩ (RouCells r v0 C c)) := Lib.hid (fun jj u hu => World.news_of_block (w := w4) (B := wr.heap.size) k1 jj u (by simpa using hu))
          have HS4 := Lib.hid (HS.out.below b4)
          have HI4 := Lib.hid (HI3.out _ HS4.out.bel)
          have HV4 : Hid (RowAt rVis w4 w4.heap.size C r.visits) := Lib.hid ((HV.out.below (b4.mono (by omega))).more (by omega))
          obtain ⟨q, hq⟩ : ∃ q, wr.heap.size = q := ⟨_, rfl⟩
          rw [hq] at HR4 hzr z4 ⊢
          clear k1 k2 k3 k4 b4 K HC HV hq hadb
          go_wp2_with (first
            | ((with_reducible refine wpList_loadG stIns _ rfl ⟨p, 0, none⟩ (insCs (y) Q) ?_ ?_ ?_ ?_ ?_); exact rfl; exact rfl; exact HI4.out.2.1.cells; exact rfl)
            | ((with_reducible refine wpList_loadG stRou _ rfl ⟨q, 0, none⟩ (RouCells r v0 C c) ?_ ?_ ?_ ?_ ?_); exact rfl; exact rfl; exact HR4.out; exact rfl))
          refine (shares_any y Q A' c' org _ _ _ C c r.visits w4 HI4.out.1 (HI4.out.2.2.2.more (by omega)) HV4.out HGG.out.1 HGG.out.2.1 HGG.out.2.2.1 HGG.out.2.2.2.1 HGG.out.2.2.2.2).mono ?_
          obtain ⟨SR, hSR⟩ : ∃ SR, shF y.orders org r.visits = SR := ⟨_, rfl⟩
          have HSR : Hid (mgF y org r = SR) := Lib.hid hSR
          rw [hSR]
          clear hSR
          rcases SR with _ | l
          · rintro e w5 ⟨rfl, b5⟩
            have HE : Hid (mergeF x org rs = .error 2) := Lib.hid (by rw [hmg.out, HT.out, HSR.out]; rfl)
            have b45 := HS4.out.bel.trans (b5.mono HS4.out.bel.size)
            have HB5 := Lib.hid b45
            clear b45 b5
            go_wp2_with fail
            go_ret2
            rw [HE.out]
            exact ⟨rfl, hBW.trans (HB5.out.mono zw)⟩
          · rintro e w5 ⟨A5, c5, cs5, rfl, hown5, hels5, b5⟩
            have hll := shF_len HSR.out
            have z5 := b5.size
            have hlow : ∀ q', (Value.slice B ll.length d).ownBlock = some q' → q' < w4.heap.size := fun q' e => (World.ownsRow.lt HS4.out.own q' e).2
            have hro : RowOff oSha w5 (fun b => some b ≠ (Value.slice B ll.length d).ownBlock ∧ w3.heap.size ≤ b) A5 l := hels5.off hown5 (by have := HGG.out.2.1; omega) (fun b _ hb => ⟨fun e => by have := hlow b e.symm; omega, by omega⟩) (fun b hb => ⟨fun e => by have := hlow b e.symm; omega, by omega⟩)
            have bl : Below w5.heap.size w5 (w5.alloc (.cells #[.slice A5 l.length c5] 85)) := (Below.refl _ _).alloc (Nat.le_refl _) _
            have HS6 := Lib.hid ((HS4.out.below b5).below bl)
            have HR6 := Lib.hid (hro.below bl)
            have z6 : w3.heap.size ≤ (w5.alloc (.cells #[.slice A5 l.length c5] 85)).heap.size := Nat.le_trans (by omega) bl.size
            have HE : Hid (mergeF x org rs = mgEnd (mgGo (mgF y org) (rs.drop (j + 1)) (ll ++ [l]))) := Lib.hid (by rw [hmg.out, HT.out, HSR.out])
            clear hown5 hels5 b5 hlow hro bl
            go_wp2_with (at_builtin; go_loud (refine wpList_app shs_elem _ _ rfl w3.heap.size B j d cs rfl (by rw [← hlj.out]; exact HS6.out.own) ⟨w5.heap.size, 0, none⟩ 1 [.slice A5 l.length c5] rfl rfl (cell_one_new _ _ _) (fun u hu => by rw [List.mem_singleton] at hu; rw [hu]; rfl) (by omega) z6 rfl ?_); intro g7 c7 w7 hown7 hg7 hx7; have HK7 := Lib.hid (And.intro hown7 (And.intro hg7 hx7)); clear hown7 hg7 hx7)
            have h7 := HK7.out
            rw [← hlj.out] at h7
            have HS7 := Lib.hid (HS6.out.push (c0 := c5) HR6.out h7.1 h7.2.1 h7.2.2)
            refine ⟨⟨j + 1, ll ++ [l], some ⟨g7, 0, none⟩, c7, _, by omega, by go_num, HE, Lib.hid (by rw [List.length_append, hlj.out]; rfl), rfl, HS7⟩, by simp [intOf]; omega⟩
        · have hjm : j = m := by omega
          subst hjm
          clear hlt
          go_wp2
          go_ret2
          have e : mergeF x org rs = .ok ll := by rw [hmg.out, List.drop_of_length_le (by rw [HM.out]; exact Nat.le_refl _)]; rfl
          rw [e]
          have hs := HS.out
          refine ⟨B, d, cs, by rw [hlj.out]; rfl, own_less hs.own zw, hs.els.weak (fun b _ hp => by have := hp.2; omega), hBW.trans (hs.bel.mono zw)⟩
    · have hsb : eqs.sameB org want = false := by unfold eqs.sameB; exact decide_eq_false heq
      have HMG : Hid (mergeF x org rs = .error 2) := Lib.hid (by rw [HME.out]; show (if org = want then mgEnd (mgGo (mgF y want) rs []) else .error 2) = _; rw [if_neg heq])
      rw [hsb]
      clear hsb heq
      go_wp2_with fail
      go_ret2
      rw [HMG.out]
      exact ⟨rfl, hB0.trans ((HB2.out.trans (b3.mono HB2.out.size)).mono z0)⟩
end Go.Proofs.YtceceomaheobhaaGreatDoor.spl
