/- Small instances. -/
import Derived.Test.YtceceomaheobhaaGreatDoorInsA
namespace Go.Proofs.YtceceomaheobhaaGreatDoor.ins
open Go.RowKit
open Go.Proofs.YtceceomaheobhaaGreatDoor.lib Go.Proofs.YtceceomaheobhaaGreatDoor.rd Go.Proofs.YtceceomaheobhaaGreatDoor.typ
set_option linter.unusedVariables false
set_option linter.unusedSimpArgs false

structure SmallI (x : Ins) : Prop where
  places : x.net.places.length ≤ 12
  arcs : x.net.arcs.length ≤ 60
  types : x.types.length ≤ 8
  orders : x.orders.length ≤ 12
  apart : x.apart.length ≤ 24
  before : x.before.length ≤ 24
  arc : ∀ a ∈ x.net.arcs, a.travel.length ≤ 20 ∧ a.slow.length ≤ 20
  type : ∀ t ∈ x.types, t.cap.length ≤ 6
  order : ∀ o ∈ x.orders, o.load.length ≤ 6
def SmallOut (x : Ins) (w : World) (e : Ending) (w' : World) : Prop := ∃ b : Bool, e = .returned (.bool b) ∧ (b = true → SmallI x) ∧ Below w.heap.size w w'
def allTo {X : Type} (p : X → Prop) (l : List X) (k : Nat) : Prop := ∀ (j : Nat) o, j < k → l[j]? = some o → p o
theorem allTo_zero {X : Type} {p : X → Prop} {l : List X} : allTo p l 0 := fun j o hj => absurd hj (by omega)
theorem allTo_step {X : Type} {p : X → Prop} {l : List X} {k : Nat} {o : X} (h : allTo p l k) (ho : l[k]? = some o) (hs : p o) : allTo p l (k + 1) := by
  intro j x hj hx
  rcases Nat.lt_or_ge j k with h1 | h1
  · exact h j x h1 hx
  · obtain rfl : j = k := by omega
    rw [ho] at hx
    cases hx
    exact hs
theorem allTo_all {X : Type} {p : X → Prop} {l : List X} {n : Nat} (hn : l.length = n) (h : allTo p l n) : ∀ x ∈ l, p x := fun x hx => by
  obtain ⟨j, hj, rfl⟩ := List.getElem_of_mem hx
  exact h j _ (by omega) (List.getElem?_eq_getElem hj)

set_option maxHeartbeats 4000000 in
theorem small_any (x : Ins) (P : InP) (w : World) (h : InAt w w.heap.size x P) :
    Calls Tryz.prog 6 #[InV x P] w (SmallOut x w) := by
  obtain ⟨a0, c0, a1, c1, a2, c2, a3, c3, a4, c4, a5, c5⟩ := P
  have hA := h.arcs
  have hT := h.types
  have hO := h.orders
  have hl0 := h.places.len
  have hl1 := hA.len
  have hl2 := hT.len
  have hl3 := hO.len
  have hl4 := h.apart.len
  have hl5 := h.before.len
  have hb0 : ∀ o, Below w.heap.size w (w.alloc o) := fun o => (Below.refl _ _).alloc (Nat.le_refl _) o
  have HF : Hid (∀ o, SmallOut x w (.returned (.bool false)) (w.alloc o)) := Lib.hid fun o => ⟨false, rfl, by simp, hb0 o⟩
  have HT : Hid (x.net.places.length ≤ 12 ∧ x.net.arcs.length ≤ 60 ∧ x.types.length ≤ 8 ∧ x.orders.length ≤ 12 ∧ x.apart.length ≤ 24 ∧ x.before.length ≤ 24 → (∀ a ∈ x.net.arcs, a.travel.length ≤ 20 ∧ a.slow.length ≤ 20) → (∀ t ∈ x.types, t.cap.length ≤ 6) → (∀ o ∈ x.orders, o.load.length ≤ 6) → ∀ o, SmallOut x w (.returned (.bool true)) (w.alloc o)) := Lib.hid fun ⟨h1, h2, h3, h4, h5, h6⟩ h7 h8 h9 o => ⟨true, rfl, fun _ => ⟨h1, h2, h3, h4, h5, h6, h7, h8, h9⟩, hb0 o⟩
  obtain ⟨n0, hn0⟩ : ∃ n, x.net.places.length = n := ⟨_, rfl⟩
  obtain ⟨n1, hn1⟩ : ∃ n, x.net.arcs.length = n := ⟨_, rfl⟩
  obtain ⟨n2, hn2⟩ : ∃ n, x.types.length = n := ⟨_, rfl⟩
  obtain ⟨n3, hn3⟩ : ∃ n, x.orders.length = n := ⟨_, rfl⟩
  obtain ⟨n4, hn4⟩ : ∃ n, x.apart.length = n := ⟨_, rfl⟩
  obtain ⟨n5, hn5⟩ : ∃ n, x.before.length = n := ⟨_, rfl⟩
  have HN1 := Lib.hid hn1
  have HN2 := Lib.hid hn2
  have HN3 := Lib.hid hn3
  simp only [InV]
  rw [hn0] at hl0 HT ⊢
  rw [hn1] at hl1 HT ⊢
  rw [hn2] at hl2 HT ⊢
  rw [hn3] at hl3 HT ⊢
  rw [hn4] at hl4 HT ⊢
  rw [hn5] at hl5 HT ⊢
  clear hn0 hn1 hn2 hn3 hn4 hn5 h
  by_cases hs : n0 ≤ 12 ∧ n1 ≤ 60 ∧ n2 ≤ 8 ∧ n3 ≤ 12 ∧ n4 ≤ 24 ∧ n5 ≤ 24
  · obtain ⟨s0, s1, s2, s3, s4, s5⟩ := hs
    have HS := Lib.hid (And.intro s0 (And.intro s1 (And.intro s2 (And.intro s3 (And.intro s4 s5)))))
    have t0 : ¬ (12 : Int) < (n0 : Int) := by omega
    have t1 : ¬ (60 : Int) < (n1 : Int) := by omega
    have t2 : ¬ (8 : Int) < (n2 : Int) := by omega
    have t3 : ¬ (12 : Int) < (n3 : Int) := by omega
    have t4 : ¬ (24 : Int) < (n4 : Int) := by omega
    have t5 : ¬ (24 : Int) < (n5 : Int) := by omega
    go_enter Tryz.func6, Tryz.ntmps6
    go_wp2
    go_loop [3] (fun i => ∃ k : Nat, k ≤ n1 ∧ i = .int .i64 k ∧ Hid (allTo (fun a : Arc => a.travel.length ≤ 20 ∧ a.slow.length ≤ 20) x.net.arcs k)) (fun i => n1 - (intOf i).toNat)
    case atStart => exact ⟨0, by omega, rfl, Lib.hid allTo_zero⟩
    case round =>
      obtain ⟨k, hk, rfl, hr⟩ := hrel
      by_cases hlt : k < n1
      · obtain ⟨t, ht⟩ : ∃ t, x.net.arcs[k]? = some t := ⟨_, List.getElem?_eq_getElem (by rw [HN1.out]; exact hlt)⟩
        obtain ⟨ad, C0, d0, C1, d1, rfl, hadb, ⟨m0, m1, m2, m3, m4, m5⟩, hp, hq, _⟩ := row_Arc hA ht
        have hbb : (ad.add (k * 6)).block < w.heap.size := by rw [block_of_add]; exact hadb
        have hk0 : (0 : Int) ≤ (k : Int) := by omega
        have hkn : (k : Int) < (n1 : Int) := by omega
        have hpl := hp.len
        have hql := hq.len
        have HX : Hid (t.travel.length ≤ 20 ∧ t.slow.length ≤ 20 → allTo (fun a : Arc => a.travel.length ≤ 20 ∧ a.slow.length ≤ 20) x.net.arcs (k + 1)) := Lib.hid (fun h => allTo_step hr.out ht h)
        clear ht m0 m1 m2 m3
        by_cases h1 : 20 < t.travel.length
        · have h1' : (20 : Int) < (t.travel.length : Int) := by omega
          clear h1
          go_wp2
          go_ret
          exact HF.out _
        · have h1' : ¬ (20 : Int) < (t.travel.length : Int) := by omega
          by_cases h2 : 20 < t.slow.length
          · have h2' : (20 : Int) < (t.slow.length : Int) := by omega
            clear h1 h2
            go_wp2
            go_ret
            exact HF.out _
          · have h2' : ¬ (20 : Int) < (t.slow.length : Int) := by omega
            have HY := Lib.hid (HX.out ⟨by omega, by omega⟩)
            clear h1 h2
            go_wp2
            go_round
            case rel => exact ⟨k + 1, by omega, by go_num, HY⟩
            case measure => simp [intOf]; omega
      · have hkn : k = n1 := by omega
        subst hkn
        have HA := Lib.hid (allTo_all HN1.out hr.out)
        clear hlt
        go_wp2
        go_loop [4] (fun i => ∃ k : Nat, k ≤ n2 ∧ i = .int .i64 k ∧ Hid (allTo (fun t : Ty => t.cap.length ≤ 6) x.types k)) (fun i => n2 - (intOf i).toNat)
        case atStart => exact ⟨0, by omega, rfl, Lib.hid allTo_zero⟩
        case round =>
          obtain ⟨k, hk, rfl, hr⟩ := hrel
          by_cases hlt : k < n2
          · obtain ⟨t, ht⟩ : ∃ t, x.types[k]? = some t := ⟨_, List.getElem?_eq_getElem (by rw [HN2.out]; exact hlt)⟩
            obtain ⟨ad, C0, d0, rfl, hadb, ⟨m0, m1, m2, m3, m4, m5, _⟩, hp, _⟩ := row_Ty hT ht
            have hbb : (ad.add (k * 14)).block < w.heap.size := by rw [block_of_add]; exact hadb
            have hk0 : (0 : Int) ≤ (k : Int) := by omega
            have hkn : (k : Int) < (n2 : Int) := by omega
            have hpl := hp.len
            have HX : Hid (t.cap.length ≤ 6 → allTo (fun t : Ty => t.cap.length ≤ 6) x.types (k + 1)) := Lib.hid (fun h => allTo_step hr.out ht h)
            clear ht m0 m1 m2 m3
            by_cases h1 : 6 < t.cap.length
            · have h1' : (6 : Int) < (t.cap.length : Int) := by omega
              clear h1
              go_wp2
              go_ret
              exact HF.out _
            · have h1' : ¬ (6 : Int) < (t.cap.length : Int) := by omega
              have HY := Lib.hid (HX.out (by omega))
              clear h1
              go_wp2
              go_round
              case rel => exact ⟨k + 1, by omega, by go_num, HY⟩
              case measure => simp [intOf]; omega
          · have hkn : k = n2 := by omega
            subst hkn
            have HB := Lib.hid (allTo_all HN2.out hr.out)
            clear hlt
            go_wp2
            go_loop [5] (fun i => ∃ k : Nat, k ≤ n3 ∧ i = .int .i64 k ∧ Hid (allTo (fun t : Ord => t.load.length ≤ 6) x.orders k)) (fun i => n3 - (intOf i).toNat)
            case atStart => exact ⟨0, by omega, rfl, Lib.hid allTo_zero⟩
            case round =>
              obtain ⟨k, hk, rfl, hr⟩ := hrel
              by_cases hlt : k < n3
              · obtain ⟨t, ht⟩ : ∃ t, x.orders[k]? = some t := ⟨_, List.getElem?_eq_getElem (by rw [HN3.out]; exact hlt)⟩
                obtain ⟨ad, C0, d0, rfl, hadb, ⟨m0, m1, _⟩, hp, _⟩ := row_Ord hO ht
                have hbb : (ad.add (k * 16)).block < w.heap.size := by rw [block_of_add]; exact hadb
                have hk0 : (0 : Int) ≤ (k : Int) := by omega
                have hkn : (k : Int) < (n3 : Int) := by omega
                have hpl := hp.len
                have HX : Hid (t.load.length ≤ 6 → allTo (fun t : Ord => t.load.length ≤ 6) x.orders (k + 1)) := Lib.hid (fun h => allTo_step hr.out ht h)
                clear ht m0
                by_cases h1 : 6 < t.load.length
                · have h1' : (6 : Int) < (t.load.length : Int) := by omega
                  clear h1
                  go_wp2
                  go_ret
                  exact HF.out _
                · have h1' : ¬ (6 : Int) < (t.load.length : Int) := by omega
                  have HY := Lib.hid (HX.out (by omega))
                  clear h1
                  go_wp2
                  go_round
                  case rel => exact ⟨k + 1, by omega, by go_num, HY⟩
                  case measure => simp [intOf]; omega
              · have hkn : k = n3 := by omega
                subst hkn
                have HC := Lib.hid (allTo_all HN3.out hr.out)
                clear hlt
                go_wp2
                go_ret
                exact HT.out HS.out HA.out HB.out HC.out _
  · go_enter Tryz.func6, Tryz.ntmps6
    go_wp2
    all_goals first | (exfalso; omega) | (go_ret; exact HF.out _)
end Go.Proofs.YtceceomaheobhaaGreatDoor.ins
