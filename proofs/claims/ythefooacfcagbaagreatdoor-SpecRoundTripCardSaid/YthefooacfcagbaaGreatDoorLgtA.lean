/- lorrylaw14.Light: has an instance few rows? -/
import Derived.Test.YthefooacfcagbaaGreatDoorSpcJ
namespace Go.Proofs.YthefooacfcagbaaGreatDoor.spc
open Go.RowKit
open lib rd app els typ big gen off
open ins (InP InAt InV)
open txt (in64)
set_option linter.unusedVariables false
set_option linter.unusedSimpArgs false
structure Lgt (x : Ins) : Prop where
 arcs : x.net.arcs.length ≤ 60
 places : x.net.places.length ≤ 30
 types : x.types.length ≤ 12
 orders : x.orders.length ≤ 14
 apart : x.apart.length ≤ 20
 before : x.before.length ≤ 20
 points : ∀ a ∈ x.net.arcs, a.travel.length ≤ 20 ∧ a.slow.length ≤ 20
def LgtOut (x : Ins) (w : World) (e : Ending) (w' : World) : Prop := ∃ b : Bool, e = .returned (.bool b) ∧ (b = true → Lgt x) ∧ Below w.heap.size w w'
theorem six {a b c d e f : Nat} : 60 < a ∨ (¬ 60 < a ∧ 30 < b) ∨ (¬ 60 < a ∧ ¬ 30 < b ∧ 12 < c) ∨ (¬ 60 < a ∧ ¬ 30 < b ∧ ¬ 12 < c ∧ 14 < d) ∨ (¬ 60 < a ∧ ¬ 30 < b ∧ ¬ 12 < c ∧ ¬ 14 < d ∧ 20 < e) ∨ (¬ 60 < a ∧ ¬ 30 < b ∧ ¬ 12 < c ∧ ¬ 14 < d ∧ ¬ 20 < e ∧ 20 < f) ∨ (¬ 60 < a ∧ ¬ 30 < b ∧ ¬ 12 < c ∧ ¬ 14 < d ∧ ¬ 20 < e ∧ ¬ 20 < f) := by omega
set_option maxRecDepth 20000 in
set_option maxHeartbeats 4000000 in
theorem light_any (x : Ins) (P : InP) (w : World) (hI : InAt w w.heap.size x P) : Calls Tryz.prog 7 #[InV x P] w (LgtOut x w) := by
 obtain ⟨A0, d0, A1, d1, A2, d2, A3, d3, A4, d4, A5, d5⟩ := P
 show Calls Tryz.prog 7 #[.agg #[.slice A0 x.net.places.length d0, .slice A1 x.net.arcs.length d1, .slice A2 x.types.length d2, .slice A3 x.orders.length d3, .slice A4 x.apart.length d4, .slice A5 x.before.length d5]] w _
 have HI := Lib.hid hI.arcs
 obtain ⟨na, ha⟩ : ∃ n, x.net.arcs.length = n := ⟨_, rfl⟩
 obtain ⟨nb, hb⟩ : ∃ n, x.net.places.length = n := ⟨_, rfl⟩
 obtain ⟨nc, hc⟩ : ∃ n, x.types.length = n := ⟨_, rfl⟩
 obtain ⟨nd, hd⟩ : ∃ n, x.orders.length = n := ⟨_, rfl⟩
 obtain ⟨ne, he⟩ : ∃ n, x.apart.length = n := ⟨_, rfl⟩
 obtain ⟨nf, hf⟩ : ∃ n, x.before.length = n := ⟨_, rfl⟩
 rw [ha, hb, hc, hd, he, hf]
 have HN := Lib.hid (And.intro ha (And.intro hb (And.intro hc (And.intro hd (And.intro he hf)))))
 obtain ⟨w0, hw0⟩ : ∃ W, w.alloc (.cells #[.slice A0 nb d0, .slice A1 na d1, .slice A2 nc d2, .slice A3 nd d3, .slice A4 ne d4, .slice A5 nf d5] 30) = W := ⟨_, rfl⟩
 have HW0 := Lib.hid hw0
 have b0 : Blk w0 w.heap.size 30 [.slice A0 nb d0, .slice A1 na d1, .slice A2 nc d2, .slice A3 nd d3, .slice A4 ne d4, .slice A5 nf d5] := by rw [← hw0]; exact Blk.new w _ _
 have HL0 : Hid (Below w.heap.size w w0) := Lib.hid (by rw [← hw0]; exact (Below.refl _ _).alloc (Nat.le_refl _) _)
 have x0 := b0.cell (j := 0) rfl
 have x1 := b0.cell (j := 1) rfl
 have x2 := b0.cell (j := 2) rfl
 have x3 := b0.cell (j := 3) rfl
 have x4 := b0.cell (j := 4) rfl
 have x5 := b0.cell (j := 5) rfl
 clear hI ha hb hc hd he hf hw0 b0
 rcases @six na nb nc nd ne nf with h1 | ⟨h1, h2⟩ | ⟨h1, h2, h3⟩ | ⟨h1, h2, h3, h4⟩ | ⟨h1, h2, h3, h4, h5⟩ | ⟨h1, h2, h3, h4, h5, h6⟩ | ⟨h1, h2, h3, h4, h5, h6⟩
 ·have i1 : (60 : Int) < (na : Int) := by omega
  go_enter Tryz.func7, Tryz.ntmps7
  go_upto_region 1 with fail
  rw [HW0.out]
  go_wp2
  go_ret
  exact ⟨false, rfl, (fun h => by cases h), HL0.out⟩
 ·have i1 : ¬ (60 : Int) < (na : Int) := by omega
  have i2 : (30 : Int) < (nb : Int) := by omega
  go_enter Tryz.func7, Tryz.ntmps7
  go_upto_region 1 with fail
  rw [HW0.out]
  go_wp2
  go_ret
  exact ⟨false, rfl, (fun h => by cases h), HL0.out⟩
 ·have i1 : ¬ (60 : Int) < (na : Int) := by omega
  have i2 : ¬ (30 : Int) < (nb : Int) := by omega
  have i3 : (12 : Int) < (nc : Int) := by omega
  go_enter Tryz.func7, Tryz.ntmps7
  go_upto_region 1 with fail
  rw [HW0.out]
  go_wp2
  go_ret
  exact ⟨false, rfl, (fun h => by cases h), HL0.out⟩
 ·have i1 : ¬ (60 : Int) < (na : Int) := by omega
  have i2 : ¬ (30 : Int) < (nb : Int) := by omega
  have i3 : ¬ (12 : Int) < (nc : Int) := by omega
  have i4 : (14 : Int) < (nd : Int) := by omega
  go_enter Tryz.func7, Tryz.ntmps7
  go_upto_region 1 with fail
  rw [HW0.out]
  go_wp2
  go_ret
  exact ⟨false, rfl, (fun h => by cases h), HL0.out⟩
 ·have i1 : ¬ (60 : Int) < (na : Int) := by omega
  have i2 : ¬ (30 : Int) < (nb : Int) := by omega
  have i3 : ¬ (12 : Int) < (nc : Int) := by omega
  have i4 : ¬ (14 : Int) < (nd : Int) := by omega
  have i5 : (20 : Int) < (ne : Int) := by omega
  go_enter Tryz.func7, Tryz.ntmps7
  go_upto_region 1 with fail
  rw [HW0.out]
  go_wp2
  go_ret
  exact ⟨false, rfl, (fun h => by cases h), HL0.out⟩
 ·have i1 : ¬ (60 : Int) < (na : Int) := by omega
  have i2 : ¬ (30 : Int) < (nb : Int) := by omega
  have i3 : ¬ (12 : Int) < (nc : Int) := by omega
  have i4 : ¬ (14 : Int) < (nd : Int) := by omega
  have i5 : ¬ (20 : Int) < (ne : Int) := by omega
  have i6 : (20 : Int) < (nf : Int) := by omega
  go_enter Tryz.func7, Tryz.ntmps7
  go_upto_region 1 with fail
  rw [HW0.out]
  go_wp2
  go_ret
  exact ⟨false, rfl, (fun h => by cases h), HL0.out⟩
 have i1 : ¬ (60 : Int) < (na : Int) := by omega
 have i2 : ¬ (30 : Int) < (nb : Int) := by omega
 have i3 : ¬ (12 : Int) < (nc : Int) := by omega
 have i4 : ¬ (14 : Int) < (nd : Int) := by omega
 have i5 : ¬ (20 : Int) < (ne : Int) := by omega
 have i6 : ¬ (20 : Int) < (nf : Int) := by omega
 go_enter Tryz.func7, Tryz.ntmps7
 go_upto_region 1 with fail
 rw [HW0.out]
 go_upto_region 4 with fail
 clear i1 i2 i3 i4 i5 i6 x0 x2 x3 x4 x5
 go_loopw [3] (fun iv wr => wr = w0 ∧ ∃ k : Nat, k ≤ na ∧ iv = .int .i64 k ∧ Hid (∀ (j : Nat) (a : Arc), j < k → x.net.arcs[j]? = some a → a.travel.length ≤ 20 ∧ a.slow.length ≤ 20)) (fun i _ => na - (intOf i).toNat)
 case atStart => exact ⟨rfl, 0, by omega, rfl, Lib.hid (fun j a h => by omega)⟩
 case round =>
  obtain ⟨rfl, k, hk, rfl, hok⟩ := hrel
  by_cases hlt : k < na
  ·obtain ⟨a, ha⟩ : ∃ s, x.net.arcs[k]? = some s := ⟨_, List.getElem?_eq_getElem (by rw [HN.out.1]; exact hlt)⟩
   obtain ⟨ad, C0, c0, C1, c1, hA, hadb, ⟨-, -, -, -, y4, y5⟩, -, -, -⟩ := row_Arc (HI.out.below HL0.out) ha
   have HA := Lib.hid ha
   obtain ⟨nt, ht⟩ : ∃ n, a.travel.length = n := ⟨_, rfl⟩
   obtain ⟨ns, hs⟩ : ∃ n, a.slow.length = n := ⟨_, rfl⟩
   have HTS := Lib.hid (And.intro ht hs)
   rw [ht] at y4
   rw [hs] at y5
   have hk0 : (0 : Int) ≤ (k : Int) := by omega
   have hkn : (k : Int) < (na : Int) := by omega
   clear ha ht hs
   subst hA
   by_cases h1 : 20 < nt
   ·have j1 : (20 : Int) < (nt : Int) := by omega
    go_wp2
    go_ret
    exact ⟨false, rfl, (fun h => by cases h), HL0.out⟩
   by_cases h2 : 20 < ns
   ·have j1 : ¬ (20 : Int) < (nt : Int) := by omega
    have j2 : (20 : Int) < (ns : Int) := by omega
    go_wp2
    go_ret
    exact ⟨false, rfl, (fun h => by cases h), HL0.out⟩
   have j1 : ¬ (20 : Int) < (nt : Int) := by omega
   have j2 : ¬ (20 : Int) < (ns : Int) := by omega
   go_wp2
   go_roundw
   case rel => exact ⟨trivial, k + 1, by omega, by go_num, Lib.hid (fun j a' hj ha' => by
    rcases Nat.lt_or_ge j k with h | h
    ·exact hok.out j a' h ha'
    ·have e : j = k := by omega
     subst e
     have e2 := Option.some.inj (HA.out.symm.trans ha')
     subst e2
     obtain ⟨e3, e4⟩ := HTS.out
     omega)⟩
   case measure => simp [intOf]; omega
  ·have hkn : ¬ (k : Int) < (na : Int) := by omega
   have hke : k = na := by omega
   subst hke
   go_wp2
   go_ret
   obtain ⟨n1, n2, n3, n4, n5, n6⟩ := HN.out
   refine ⟨true, rfl, fun _ => ⟨by omega, by omega, by omega, by omega, by omega, by omega, fun a ha => ?_⟩, HL0.out⟩
   obtain ⟨j, hj⟩ := List.getElem?_of_mem ha
   exact hok.out j a (by rw [← n1]; exact (List.getElem?_eq_some_iff.1 hj).1) hj
end Go.Proofs.YthefooacfcagbaaGreatDoor.spc
