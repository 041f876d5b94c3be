/- The law InstanceChecks, walked. -/
import Derived.Test.YtceceomaheobhaaGreatDoorInsK
import Derived.Test.YtceceomaheobhaaGreatDoorSmlP
import Derived.Test.YtceceomaheobhaaGreatDoorSamP
import Derived.Test.YtceceomaheobhaaGreatDoorR13C
import Derived.Deep.QuietTactic
import Derived.BigQuiet
namespace Go.Proofs.YtceceomaheobhaaGreatDoor.ins
open Go.RowKit
open Go.Proofs.YtceceomaheobhaaGreatDoor.lib Go.Proofs.YtceceomaheobhaaGreatDoor.rd Go.Proofs.YtceceomaheobhaaGreatDoor.typ Go.Proofs.YtceceomaheobhaaGreatDoor.flts Go.Proofs.YtceceomaheobhaaGreatDoor.note Go.Proofs.YtceceomaheobhaaGreatDoor.big Go.Proofs.YtceceomaheobhaaGreatDoor.app
set_option linter.unusedVariables false
set_option linter.unusedSimpArgs false

theorem lim_rlim {x : Ins} (h : Lim x) : RLim x where
  places := by have := h.places; omega
  points := fun a ha => by have := h.points a ha; omega
  net := by have := h.net; omega
  types := by have := h.types; omega
  orders := by have := h.orders; omega
  apart := by have := h.apart; omega
  before := by have := h.before; omega
theorem undL_fits {word : ByteArray} (hw : word.size ≤ 10) {fs : List Flt} (h : OkF fs) : ∀ f ∈ und.undL word fs, FltFits f := fun f hf => by
  unfold und.undL at hf
  obtain ⟨g, hg, rfl⟩ := List.mem_map.1 hf
  obtain ⟨⟨h1, h2⟩, h3⟩ := h g hg
  unfold FltFits und.undP
  refine ⟨by show -9223372036854775808 ≤ g.err ∧ g.err ≤ 9223372036854775807; omega, ?_⟩
  show (if g.at_.toList.isEmpty = true then word else word ++ (⟨#[32]⟩ ++ g.at_)).size ≤ _
  split
  · omega
  · rw [ByteArray.size_append, ByteArray.size_append]
    have e1 : (⟨#[32]⟩ : ByteArray).size = 1 := rfl
    omega
theorem insF_fits (x : Ins) : ∀ f ∈ insF x, FltFits f := fun f hf => by
  have e : insF x = und.undL netS (insN x) ++ (und.undL typesS (insT x) ++ (und.undL ordersS (insO x) ++ (und.undL rulesS (insR x) ++ []))) := rfl
  rw [e] at hf
  simp only [List.mem_append, List.not_mem_nil, or_false] at hf
  rcases hf with hf | hf | hf | hf
  · exact undL_fits (by decide) (netTo_ok _ _) f hf
  · exact undL_fits (by decide) (fltsTo_ok _ _ _) f hf
  · exact undL_fits (by decide) (ofltsTo_ok _ _ _ _ _) f hf
  · exact undL_fits (by decide) (rulesF_ok _ _ _) f hf
theorem insF_len {x : Ins} (h : Lim x) : (insF x).length ≤ 1000000 := by
  have e : insF x = und.undL netS (insN x) ++ (und.undL typesS (insT x) ++ (und.undL ordersS (insO x) ++ (und.undL rulesS (insR x) ++ []))) := rfl
  have l1 := h.net
  have l2 : (insT x).length ≤ 1000 := by
    have := flt.fltsTo_len ((x.net.places.length : Int) - 1) x.types x.types.length
    have := h.types
    unfold insT
    omega
  have l3 : (insO x).length ≤ 1000 := by
    have := ord.ofltsTo_len ((x.net.places.length : Int) - 1) (flt.dimsN x.types) x.types.length x.orders x.orders.length
    have := h.orders
    unfold insO
    omega
  have l4 : (insR x).length ≤ 1000 := by
    have := rul.pairsTo_len x.orders.length rul.apartS rul.looseB x.apart x.apart.length
    have := rul.pairsTo_len x.orders.length rul.beforeS eqg.twoEq x.before x.before.length
    have := h.apart
    have := h.before
    unfold insR rul.rulesF
    rw [List.length_append]
    omega
  rw [e]
  simp only [List.length_append, undL_len, List.length_nil]
  omega
set_option maxRecDepth 100000 in
set_option maxHeartbeats 8000000 in
theorem lawChecks_any (x : Ins) (Q : InP) (w : World) (h : InAt w w.heap.size x Q) : Calls Tryz.prog 3 #[InV x Q] w fun e w' => e = .returned (.bool true) ∧ Below w.heap.size w w' := by
  obtain ⟨W0, hW0⟩ : ∃ W0, w.alloc (.cells (insCs x Q).toArray 30) = W0 := ⟨_, rfl⟩
  have hB0 : Below w.heap.size w W0 := by rw [← hW0]; exact (Below.refl _ _).alloc (Nat.le_refl _) _
  have z0 := hB0.size
  have hs0 : w.heap.size < W0.heap.size := by rw [← hW0]; simp
  have hb0 : SixAt W0 w.heap.size (insCs x Q) := by rw [← hW0]; exact World.alloc_heap_new w _
  have HX : Hid (∀ w', Below W0.heap.size W0 w' → SixAt w' w.heap.size (insCs x Q)) := Lib.hid fun w' h => hb0.below h
  have HI : Hid (∀ w', Below W0.heap.size W0 w' → InAt w' w'.heap.size x Q) := Lib.hid fun w' h' => (h.go hB0).go h'
  have hW1 : w.alloc (.cells #[.slice Q.a0 x.net.places.length Q.c0, .slice Q.a1 x.net.arcs.length Q.c1, .slice Q.a2 x.types.length Q.c2, .slice Q.a3 x.orders.length Q.c3, .slice Q.a4 x.apart.length Q.c4, .slice Q.a5 x.before.length Q.c5] 30) = W0 := hW0
  have HW1 := Lib.hid hW1
  have B0 : Below W0.heap.size W0 W0 := Below.refl _ _
  clear hW0 hW1 h hb0
  simp only [InV]
  go_enter Tryz.func3, Tryz.ntmps3
  go_upto_region 1 with fail
  rw [HW1.out]
  go_wp2_with ((with_reducible refine wpList_loadG stIns _ rfl ⟨w.heap.size, 0, none⟩ (insCs (x) Q) ?_ ?_ ?_ ?_ ?_); exact rfl; exact rfl; exact (HX.out _ B0).cells; exact rfl)
  refine (small_any x Q _ (HI.out _ B0)).mono ?_
  rintro e w1 ⟨b, rfl, hsm, b1⟩
  have HSM := Lib.hid hsm
  have z1 := b1.size
  clear hsm
  cases b
  case false =>
    go_wp2_with fail
    refine (awake_any _).mono ?_
    rintro e w2 ⟨rfl, b2⟩
    have B2 : Below W0.heap.size W0 w2 := b1.trans (b2.mono z1)
    go_wp2_with fail
    go_ret
    exact ⟨rfl, hB0.trans (B2.mono z0)⟩
  case true =>
    have hlim := small_lim (HSM.out rfl)
    have hfl := insF_len hlim
    have HL := Lib.hid hlim
    obtain ⟨E, hE⟩ : ∃ E, insF x = E := ⟨_, rfl⟩
    have HFT : Hid (∀ f ∈ E, FltFits f) := Lib.hid (by rw [← hE]; exact insF_fits x)
    have HE := Lib.hid hE
    rw [hE] at hfl
    clear hlim hE HSM
    go_wp2_with ((with_reducible refine wpList_loadG stIns _ rfl ⟨w.heap.size, 0, none⟩ (insCs (x) Q) ?_ ?_ ?_ ?_ ?_); exact rfl; exact rfl; exact (HX.out _ b1).cells; exact rfl)
    refine (icheck_any x Q _ (HI.out _ b1) HL.out).mono ?_
    rw [HE.out]
    rintro e w2 ⟨A1, c1, rfl, hown1, b2⟩
    have B2 : Below W0.heap.size W0 w2 := b1.trans (b2.mono z1)
    have z2 := B2.size
    have HR1 := Lib.hid (flts_row hown1 HFT.out (by omega))
    clear hown1
    go_wp2_with ((with_reducible refine wpList_loadG stIns _ rfl ⟨w.heap.size, 0, none⟩ (insCs (x) Q) ?_ ?_ ?_ ?_ ?_); exact rfl; exact rfl; exact (HX.out _ B2).cells; exact rfl)
    refine (richeck_any x Q _ (HI.out _ B2) (lim_rlim HL.out)).mono ?_
    rw [HE.out]
    rintro e w3 ⟨A2, c2, rfl, hown2, b3⟩
    have B3 : Below W0.heap.size W0 w3 := B2.trans (b3.mono z2)
    have z3 := B3.size
    have HR2 := Lib.hid (And.intro ((HR1.out.below b3).more b3.size) (flts_row hown2 HFT.out (by omega)))
    clear hown2
    have C0 : Below w3.heap.size w3 w3 := Below.refl _ _
    go_upto_region 8 with fail
    go_loopw [5] (fun i wr => ∃ j : Nat, j ≤ E.length ∧ i = .int .i64 j ∧ Below w3.heap.size w3 wr) (fun i _ => E.length - (intOf i).toNat)
    case atStart => exact ⟨0, by omega, rfl, C0⟩
    case round =>
      obtain ⟨j, hj, rfl, hb⟩ := hrel
      by_cases hlt : j < E.length
      · obtain ⟨f, hf⟩ : ∃ f, E[j]? = some f := ⟨_, List.getElem?_eq_getElem hlt⟩
        obtain ⟨ad, rfl, hadb, ⟨m0, m1⟩, -⟩ := row_Flt (HR2.out.1.below hb) hf
        obtain ⟨ad', rfl, hadb', ⟨n0, n1⟩, -⟩ := row_Flt (HR2.out.2.below hb) hf
        have hj0 : (0 : Int) ≤ (j : Int) := by omega
        have hjn : (j : Int) < (E.length : Int) := by omega
        clear hf
        go_wp2
        go_quiet (fail)
        go_wp2
        go_roundw
        case rel => exact ⟨j + 1, by omega, by go_num, bel_drewN hb _⟩
        case measure => simp [intOf]; omega
      · have hjn : j = E.length := by omega
        subst hjn
        clear hlt
        have B4 : Below W0.heap.size W0 wr := B3.trans (hb.mono z3)
        go_wp2_with fail
        refine (awake_any _).mono ?_
        rintro e w5 ⟨rfl, b5⟩
        have B5 : Below W0.heap.size W0 w5 := B4.trans (b5.mono B4.size)
        go_wp2_with fail
        go_ret
        exact ⟨rfl, hB0.trans (B5.mono z0)⟩
end Go.Proofs.YtceceomaheobhaaGreatDoor.ins
