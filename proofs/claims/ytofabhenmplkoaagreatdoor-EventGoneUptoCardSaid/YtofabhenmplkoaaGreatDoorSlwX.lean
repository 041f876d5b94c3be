import Derived.Test.YtofabhenmplkoaaGreatDoorZ4
import Derived.Test.YtofabhenmplkoaaGreatDoorZ3
import Derived.Test.YtofabhenmplkoaaGreatDoorGenX
import Derived.Deep.RegionHeld3
import Derived.Deep.DeepCutAuto
import Derived.Test.YtofabhenmplkoaaGreatDoorZ2
set_option linter.unusedVariables false
set_option linter.unusedSimpArgs false
/- Parts of instances: plain. A part of a valid instance is valid; a part of a part is a part. -/
namespace Go.Proofs.YtofabhenmplkoaaGreatDoor.par
open Go.RowKit
open lib typ sets idx ren eqg rul ord note flts ins und cat
def pick {X : Type} (l : List X) (L : List Nat) : List X := L.filterMap (l[·]?)
def after (L K : List Nat) : List Nat := K.map fun k => L[k]?.getD 0
abbrev ints (L : List Nat) : List Int := L.map fun i : Nat => (i : Int)
theorem pairsTo_nil {orders : Int} {word : ByteArray} {same : Int × Int → Int × Int → Bool} {l : List (Int × Int)} : ∀ k, pairsTo orders word same l k = [] ↔ l.length ≤ 16 ∧ ∀ (j : Nat) p, j < k → l[j]? = some p → badB orders p = false ∧ (l.take j).any (same p) = false
 | 0 => by
  unfold pairsTo
  split
  ·rename_i h
   exact ⟨fun _ => ⟨h, fun j p hj => absurd hj (by omega)⟩, fun _ => rfl⟩
  ·rename_i h
   exact ⟨fun e => (by cases e), fun e => absurd e.1 h⟩
 | k + 1 => by
  rw [pairsTo, List.append_eq_nil_iff, pairsTo_nil k]
  constructor
  ·rintro ⟨⟨h1, h2⟩, h3⟩
   refine ⟨h1, fun j p hj hp => ?_⟩
   rcases Nat.lt_or_ge j k with h | h
   ·exact h2 j p h hp
   ·obtain rfl : j = k := by omega
    unfold pairAt at h3
    rw [hp] at h3
    unfold pairP at h3
    dsimp only at h3
    split at h3
    ·cases h3
    ·split at h3
     ·cases h3
     ·rename_i h4 h5
      exact ⟨by simpa using h4, by simpa using h5⟩
  ·rintro ⟨h1, h2⟩
   refine ⟨⟨h1, fun j p hj hp => h2 j p (by omega) hp⟩, ?_⟩
   unfold pairAt
   split
   ·rename_i p hp
    obtain ⟨h3, h4⟩ := h2 k p (by omega) hp
    unfold pairP
    rw [if_neg (by rw [h3]; decide), if_neg (by rw [h4]; decide)]
   ·rfl
def NoTwice (same : Int × Int → Int × Int → Bool) (l : List (Int × Int)) : Prop := l.Pairwise fun q p => same p q = false
theorem noTwice_iff {same : Int × Int → Int × Int → Bool} {l : List (Int × Int)} : NoTwice same l ↔ ∀ (j : Nat) p, l[j]? = some p → (l.take j).any (same p) = false := by
 unfold NoTwice
 rw [List.pairwise_iff_getElem]
 constructor
 ·intro h j p hp
  obtain ⟨hj, rfl⟩ := List.getElem?_eq_some_iff.1 hp
  rw [List.any_eq_false]
  intro q hq
  obtain ⟨i, hi⟩ := List.mem_iff_getElem?.1 hq
  rw [List.getElem?_take] at hi
  split at hi
  ·rename_i hij
   obtain ⟨hi2, rfl⟩ := List.getElem?_eq_some_iff.1 hi
   rw [h i j hi2 hj hij]
   decide
  ·cases hi
 ·intro h i j hi hj hij
  have h1 := h j _ (List.getElem?_eq_getElem hj)
  rw [List.any_eq_false] at h1
  have h2 := h1 l[i] (by
   rw [List.mem_iff_getElem?]
   exact ⟨i, by rw [List.getElem?_take, if_pos hij, List.getElem?_eq_getElem hi]⟩)
  simpa using h2
theorem pairs_nil {orders : Int} {word : ByteArray} {same : Int × Int → Int × Int → Bool} {l : List (Int × Int)} : pairsTo orders word same l l.length = [] ↔ l.length ≤ 16 ∧ (∀ p ∈ l, badB orders p = false) ∧ NoTwice same l := by
 rw [pairsTo_nil, noTwice_iff]
 constructor
 ·rintro ⟨h1, h2⟩
  refine ⟨h1, fun p hp => ?_, fun j p hp => (h2 j p (List.getElem?_eq_some_iff.1 hp).1 hp).2⟩
  obtain ⟨i, hi⟩ := List.mem_iff_getElem?.1 hp
  exact (h2 i p (List.getElem?_eq_some_iff.1 hi).1 hi).1
 ·rintro ⟨h1, h2, h3⟩
  exact ⟨h1, fun j p _ hp => ⟨h2 p (List.mem_of_getElem? hp), h3 j p hp⟩⟩
theorem pushIf_nil {xs : List Int} {r : Bool} {u : Int} : pushIf xs r u = [] ↔ xs = [] ∧ r = true := by
 unfold pushIf
 cases r <;> simp
theorem ofltsTo_nil {P dims types : Int} {l : List Ord} : ∀ k, ofltsTo P dims types l k = [] ↔ l.length ≤ 10 ∧ ∀ (j : Nat) o, j < k → l[j]? = some o → errsO P dims types l j o = []
 | 0 => by
  unfold ofltsTo
  split
  ·rename_i h
   exact ⟨fun _ => ⟨h, fun j p hj => absurd hj (by omega)⟩, fun _ => rfl⟩
  ·rename_i h
   exact ⟨fun e => (by cases e), fun e => absurd e.1 h⟩
 | k + 1 => by
  rw [ofltsTo, List.append_eq_nil_iff, ofltsTo_nil k]
  constructor
  ·rintro ⟨⟨h1, h2⟩, h3⟩
   refine ⟨h1, fun j p hj hp => ?_⟩
   rcases Nat.lt_or_ge j k with h | h
   ·exact h2 j p h hp
   ·obtain rfl : j = k := by omega
    unfold ofltsAt at h3
    rw [hp] at h3
    unfold mkF at h3
    exact List.map_eq_nil_iff.1 h3
  ·rintro ⟨h1, h2⟩
   refine ⟨⟨h1, fun j p hj hp => h2 j p (by omega) hp⟩, ?_⟩
   unfold ofltsAt
   split
   ·rename_i p hp
    rw [h2 k p (by omega) hp]
    rfl
   ·rfl
theorem undL_nil {word : ByteArray} {fs : List Flt} : undL word fs = [] ↔ fs = [] := by unfold undL; exact List.map_eq_nil_iff
theorem insF_nil {x : Ins} : insF x = [] ↔ insN x = [] ∧ insT x = [] ∧ insO x = [] ∧ insR x = [] := by
 have e : insF x = undL netS (insN x) ++ (undL typesS (insT x) ++ (undL ordersS (insO x) ++ (undL rulesS (insR x) ++ []))) := rfl
 rw [e]
 simp only [List.append_eq_nil_iff, undL_nil, and_true]
end Go.Proofs.YtofabhenmplkoaaGreatDoor.par

/- An instance that is accepted is small. -/
namespace Go.Proofs.YtofabhenmplkoaaGreatDoor.lim
open Go.RowKit
open lib loads typ ins note txt ren rul par eqg net trv
theorem netTo_nil {n : Net} : ∀ k, netTo n k = [] → (n.places.length ≤ 24 ∧ n.arcs.length ≤ 1024) ∧ ∀ (j : Nat) a, j < k → n.arcs[j]? = some a → arcE n.places.length ((n.arcs.take j).map wayK) a = []
 | 0, h => by
  rw [netTo, List.append_eq_nil_iff] at h
  refine ⟨⟨?_, ?_⟩, fun j a hj => absurd hj (by omega)⟩
  ·have hp : ∀ k, plTo n.places k = [] → n.places.length ≤ 24 := by
    intro k
    induction k with
    | zero =>
     intro h
     unfold plTo at h
     split at h
     ·cases h
     ·omega
    | succ k ih =>
     intro h
     rw [plTo, List.append_eq_nil_iff] at h
     exact ih h.1
   exact hp _ h.1
  ·have h2 := h.2
   split at h2
   ·cases h2
   ·omega
 | k + 1, h => by
  rw [netTo, List.append_eq_nil_iff] at h
  obtain ⟨h1, h2⟩ := netTo_nil k h.1
  refine ⟨h1, fun j a hj ha => ?_⟩
  rcases Nat.lt_or_ge j k with hlt | hge
  ·exact h2 j a hlt ha
  ·obtain rfl : j = k := by omega
   have h3 := h.2
   unfold arAt at h3
   rw [ha] at h3
   exact List.map_eq_nil_iff.1 h3
theorem slTo_nil {l : List Pt} : ∀ k, slTo l k = [] → l.length ≤ 16
 | 0, h => by
  unfold slTo at h
  split at h
  ·cases h
  ·omega
 | k + 1, h => by
  rw [slTo, List.append_eq_nil_iff] at h
  exact slTo_nil k h.1
theorem tvTo_nil {l : List Pt} : ∀ k, tvTo l k = [] → szB l.length = false
 | 0, h => by
  unfold tvTo at h
  split at h
  ·cases h
  ·rename_i h'
   simpa using h'
 | k + 1, h => by
  rw [tvTo, List.append_eq_nil_iff] at h
  exact tvTo_nil k h.1
theorem arcE_nil {P : Int} {ks : List (Int × Int × Int)} {a : Arc} (h : arcE P ks a = []) : a.travel.length ≤ 100 ∧ a.slow.length ≤ 1000 := by
 unfold arcE at h
 rw [List.append_eq_nil_iff, List.append_eq_nil_iff, List.map_eq_nil_iff] at h
 have h1 := tvTo_nil _ h.1.2
 have h2 := slTo_nil _ h.2
 refine ⟨?_, by omega⟩
 unfold szB at h1
 simp at h1
 omega
theorem lim_of {x : Ins} (h : insF x = []) : Lim x := by
 obtain ⟨hN, hT, hO, hR⟩ := par.insF_nil.1 h
 have ho : x.orders.length ≤ 10 := by
  unfold insO at hO
  exact ((par.ofltsTo_nil x.orders.length).1 hO).1
 unfold insR rul.rulesF at hR
 rw [List.append_eq_nil_iff] at hR
 have ha := (par.pairs_nil.1 hR.1).1
 have hb := (par.pairs_nil.1 hR.2).1
 unfold insN at hN
 obtain ⟨⟨h1, h2⟩, h3⟩ := netTo_nil _ hN
 have hpt : ∀ a ∈ x.net.arcs, a.travel.length ≤ 100 ∧ a.slow.length ≤ 1000 := fun a ha => by
  obtain ⟨j, hj⟩ := List.mem_iff_getElem?.1 ha
  exact arcE_nil (h3 j a (List.getElem?_eq_some_iff.1 hj).1 hj)
 have ht : ∀ k, flt.fltsTo ((x.net.places.length : Int) - 1) x.types k = [] → x.types.length ≤ 6 := by
  intro k
  induction k with
  | zero =>
   intro h
   unfold flt.fltsTo at h
   split at h
   ·rename_i hb
    unfold flt.inB at hb
    simp only [Bool.and_eq_true, decide_eq_true_eq] at hb
    omega
   ·cases h
  | succ k ih =>
   intro h
   rw [flt.fltsTo, List.append_eq_nil_iff] at h
   exact ih h.1
 refine ⟨by omega, by omega, hpt, fun j a hj hne => absurd (h3 j a (List.getElem?_eq_some_iff.1 hj).1 hj) hne, ?_, ?_, by omega, by omega, by omega⟩
 ·unfold insN
  rw [hN]
  simp
 ·have := ht _ hT
  omega
end Go.Proofs.YtofabhenmplkoaaGreatDoor.lim

/- The delays of an arc with one more. The program. -/
namespace Go.Proofs.YtofabhenmplkoaaGreatDoor.evt
open Go.RowKit
open lib rd app els off typ big ins ord gen
def LateOut (w : World) (r : Except Int (List Pt)) (e : Ending) (w' : World) : Prop := match r with
 | .error k => e = .returned (.tuple #[.slice none 0 0, .int .i64 k]) ∧ Below w.heap.size w w'
 | .ok s => ∃ A c, e = .returned (.tuple #[.slice A s.length c, .int .i64 0]) ∧ w'.ownsRow w.heap.size 140 2 (.slice A s.length c) s.length (pcs s) ∧ Below w.heap.size w w'
theorem pcs_len (l : List Pt) : (pcs l).length = l.length * 2 := by
 unfold pcs
 induction l with
 | nil => rfl
 | cons a l ih => rw [List.flatMap_cons, List.length_append, ih, List.length_cons]; show 2 + _ = _; omega
theorem pcs_one (l : List Pt) : ∀ u ∈ pcs l, u.oneCell' = true := fun u hu => by
 unfold pcs at hu
 rw [List.mem_flatMap] at hu
 obtain ⟨p, _, hp⟩ := hu
 simp only [PtCells, List.mem_cons, List.not_mem_nil, or_false] at hp
 rcases hp with rfl | rfl <;> rfl
theorem reads_pts {w : World} {B : Nat} {A : Option Addr} {l : List Pt} (h : RowAt rPt w B A l) : Reads w B 2 A l.length (pcs l) := by
 refine ⟨pcs_len l, fun h0 => ?_⟩
 obtain ⟨CS, hcs, hca, hcb, _⟩ := RowAt.cells (r := rPt) (by decide) h
 obtain ⟨ad, h1, h2⟩ := hcb h0
 refine ⟨ad, h1, h2, ?_⟩
 have e : CS = pcs l := by
  apply List.ext_getElem?
  intro n
  rcases Nat.lt_or_ge n (l.length * 2) with hn | hn
  ·obtain ⟨p, hp⟩ : ∃ p, l[n / 2]? = some p := ⟨_, List.getElem?_eq_getElem (by omega)⟩
   obtain ⟨c, h3, h4⟩ := hcs.2 (n / 2) p hp
   obtain ⟨rfl, _⟩ := rPt_at h3
   have h5 := pcs_at hp (n % 2) (Nat.mod_lt _ (by decide))
   have hd : n / 2 * 2 + n % 2 = n := by omega
   rw [hd] at h5
   rw [h5, List.getElem?_eq_getElem (show n % 2 < (PtCells p).length from Nat.mod_lt _ (by decide))]
   have h6 := h4 (n % 2) _ (List.getElem?_eq_getElem (show n % 2 < (PtCells p).length from Nat.mod_lt _ (by decide)))
   rw [show rPt.size = 2 from rfl, hd] at h6
   exact h6
  ·rw [List.getElem?_eq_none (by rw [hcs.1]; exact hn), List.getElem?_eq_none (by rw [pcs_len]; exact hn)]
 rw [← e]
 exact hca ad h1
theorem pcs_set (l : List Pt) (p : Pt) (v : Int) : (pcs (l ++ [p])).set (l.length * 2 + 1) (.int .i64 v) = pcs (l ++ [⟨p.t, v⟩]) := by
 rw [pcs_append, pcs_append, List.set_append_right _ _ (by rw [pcs_len]; omega), pcs_len, show l.length * 2 + 1 - l.length * 2 = 1 by omega]
 rfl
theorem late_snoc (l : List Pt) (p : Pt) (t n : Int) : lateF (l ++ [p]) t n = if t < p.t then .error 2 else if t = p.t then (if 4096 < p.a + n then .error 2 else .ok (l ++ [⟨p.t, p.a + n⟩])) else if 16 ≤ l.length + 1 then .error 4 else .ok (l ++ [p] ++ [⟨t, n⟩]) := by
 have h1 : (l ++ [p]).getLast? = some p := by simp
 have h2 : (l ++ [p]).dropLast = l := by simp
 unfold lateF
 rw [h1, h2, List.length_append]
 rfl
set_option maxRecDepth 20000 in
set_option maxHeartbeats 4000000 in
theorem later_any (A : Option Addr) (c : Nat) (l : List Pt) (t n : Int) (w : World) (h : RowAt rPt w w.heap.size A l) (hl : l.length ≤ 1000000) (hb : ∀ p ∈ l, -1000000 ≤ p.a ∧ p.a ≤ 1000000) (hn : 0 ≤ n ∧ n ≤ 4096) :
  Calls Tryz.prog 163 #[.slice A l.length c, .int .i64 t, .int .i64 n] w (LateOut w (lateF l t n)) := by
 have B0 : Below w.heap.size w (w.alloc (.cells #[] 140)) := (Below.refl _ _).alloc (Nat.le_refl _) _
 have HE0 : Hid ((w.alloc (.cells #[] 140)).ownsRow w.heap.size 140 2 (.slice (some ⟨w.heap.size, 0, none⟩) 0 0) 0 []) := Lib.hid (World.ownsRow_made w #[] 0 (Nat.le_refl _) (by decide) rfl)
 have HBA : Hid (w.heap.size ≤ (w.alloc (.cells #[] 140)).heap.size) := Lib.hid B0.size
 have HB := Lib.hid B0
 have HC : Hid (Reads (w.alloc (.cells #[] 140)) w.heap.size 2 A l.length (pcs l)) := Lib.hid ((reads_pts h).below B0)
 have HONE := Lib.hid (pcs_one l)
 obtain ⟨hn0, hn9⟩ := hn
 clear h B0
 rcases List.eq_nil_or_concat l with rfl | ⟨l', p, rfl⟩
 ·have HR : Hid (lateF [] t n = .ok [⟨t, n⟩]) := Lib.hid rfl
  obtain ⟨r, hr⟩ : ∃ r, lateF [] t n = r := ⟨_, rfl⟩
  rw [hr] at HR ⊢
  clear hr
  show Calls Tryz.prog 163 #[.slice A 0 c, .int .i64 t, .int .i64 n] w _
  go_enter Tryz.func163, Tryz.ntmps163
  go_upto_region 2 with (at_builtin; go_loud (refine zX pt_elem _ _ rfl w.heap.size (.slice (some ⟨w.heap.size, 0, none⟩) 0 0) 0 [] rfl HE0.out w.heap.size A 0 c [] rfl HC.out HONE.out (by omega) HBA.out rfl ?_); intro A5 c5 w5 hown5 hg5; rw [Nat.zero_add, List.nil_append] at hown5; have HK := Lib.hid (And.intro hown5 (HB.out.grown hg5 HBA.out (fun q e => own_base HE0.out q e))); clear hown5 hg5)
  have HKa : Hid ((w5.alloc (.cells #[.int .i64 t, .int .i64 n] 140)).ownsRow w.heap.size 140 2 (.slice A5 0 c5) 0 [] ∧ Below w.heap.size w (w5.alloc (.cells #[.int .i64 t, .int .i64 n] 140))) := Lib.hid ⟨own_below HK.out.1 ((Below.refl _ _).alloc (Nat.le_refl _) _), HK.out.2.alloc HK.out.2.size _⟩
  go_wp2_with (at_builtin; go_loud (refine zN pt_elem _ _ rfl w.heap.size A5 0 c5 _ rfl HKa.out.1 ⟨w5.heap.size, 0, none⟩ 1 [.int .i64 t, .int .i64 n] rfl rfl (two_new w5 (.int .i64 t) (.int .i64 n) _) (fun u hu => by simp only [List.mem_cons, List.not_mem_nil, or_false] at hu; rcases hu with rfl | rfl <;> rfl) (by omega) HKa.out.2.size rfl ?_); intro g7 c7 w7 hown7 hg7 hx7; have H7 := Lib.hid (And.intro hown7 (HKa.out.2.grown hg7 HKa.out.2.size (fun q e => own_base HKa.out.1 q e))); clear hown7 hg7 hx7)
  (refine bodyPost_ret (v := .tuple #[(.slice (some ⟨g7, 0, none⟩) 1 c7), .int .i64 0]) (by simp [results, Tryz.results163, go_sem]) rfl ?_)
  rw [HR.out]
  exact ⟨_, _, rfl, H7.out.1, H7.out.2⟩
 ·rw [List.concat_eq_append] at hl hb HC HONE ⊢
  have hp := hb p (by simp)
  obtain ⟨k, hk⟩ : ∃ k, l'.length = k := ⟨_, rfl⟩
  have hlen : (l' ++ [p]).length = k + 1 := by rw [List.length_append, hk]; rfl
  rw [hlen] at hl HC ⊢
  have HL := Lib.hid (And.intro hk hlen)
  have HR := Lib.hid (late_snoc l' p t n)
  rw [hk] at HR
  obtain ⟨r, hr⟩ : ∃ r, lateF (l' ++ [p]) t n = r := ⟨_, rfl⟩
  rw [hr] at HR ⊢
  clear hk hlen hb hr
  go_enter Tryz.func163, Tryz.ntmps163
  go_upto_region 3 with (at_builtin; go_loud (refine zX pt_elem _ _ rfl w.heap.size (.slice (some ⟨w.heap.size, 0, none⟩) 0 0) 0 [] rfl HE0.out w.heap.size A (k + 1) c (pcs (l' ++ [p])) rfl HC.out HONE.out (by omega) HBA.out rfl ?_); intro A5 c5 w5 hown5 hg5; rw [Nat.zero_add, List.nil_append] at hown5; have HK := Lib.hid (And.intro hown5 (HB.out.grown hg5 HBA.out (fun q e => own_base HE0.out q e))); clear hown5 hg5)
  obtain ⟨g, cap, hv, hgb, hglt⟩ := HK.out.1.form (Nat.succ_pos k)
  obtain rfl : A5 = some ⟨g, 0, none⟩ := by injection hv
  have hp9 : (l' ++ [p])[k]? = some p := by rw [← HL.out.1]; simp
  have hxl : (pcs (l' ++ [p])).length = (k + 1) * 2 := by rw [pcs_len, HL.out.2]
  have e0 : w5.cell? ⟨g, k * 2, none⟩ = some (.int .i64 p.t) := by
   have h := HK.out.1.cellAt (k * 2) (by omega)
   have h1 := pcs_at hp9 0 (by decide)
   rw [Nat.add_zero] at h1
   rw [h, h1]
   rfl
  have e1 : w5.cell? ⟨g, k * 2 + 1, none⟩ = some (.int .i64 p.a) := by
   have h := HK.out.1.cellAt (k * 2 + 1) (by omega)
   rw [h, pcs_at hp9 1 (by decide)]
   rfl
  have f1 : w5.frozen? ⟨g, k * 2 + 1, none⟩ = false := HK.out.1.frozenAt _
  obtain ⟨hp1, hp2⟩ := hp
  clear hv hp9 hxl
  by_cases h1 : t < p.t
  ·have HRR : Hid (r = .error 2) := Lib.hid (by rw [HR.out, if_pos h1])
   clear HR
   go_wp2_with fail
   (refine bodyPost_ret (v := .tuple #[(.slice none 0 0), .int .i64 2]) (by simp [results, Tryz.results163, go_sem]) rfl ?_)
   rw [HRR.out]
   exact ⟨rfl, HK.out.2⟩
  by_cases h2 : t = p.t
  ·subst h2
   have HR2 : Hid (r = if 4096 < p.a + n then .error 2 else .ok (l' ++ [⟨p.t, p.a + n⟩])) := Lib.hid (by rw [HR.out, if_neg h1, if_pos rfl])
   clear HR
   by_cases h3 : 4096 < p.a + n
   ·have HRR : Hid (r = .error 2) := Lib.hid (by rw [HR2.out, if_pos h3])
    clear HR2
    go_wp2_with fail
    (refine bodyPost_ret (v := .tuple #[(.slice none 0 0), .int .i64 2]) (by simp [results, Tryz.results163, go_sem]) rfl ?_)
    rw [HRR.out]
    exact ⟨rfl, HK.out.2.setCell (p := ⟨g, k * 2 + 1, none⟩) hgb _⟩
   ·have HRR : Hid (r = .ok (l' ++ [⟨p.t, p.a + n⟩])) := Lib.hid (by rw [HR2.out, if_neg h3])
    clear HR2
    go_wp2_with fail
    (refine bodyPost_ret (v := .tuple #[(.slice (some ⟨g, 0, none⟩) (k + 1) c5), .int .i64 0]) (by simp [results, Tryz.results163, go_sem]) rfl ?_)
    rw [HRR.out]
    have hll : (l' ++ [(⟨p.t, p.a + n⟩ : Pt)]).length = k + 1 := by rw [List.length_append, HL.out.1]; rfl
    have hst := (HK.out.1.stored (k * 2 + 1) (.int .i64 (p.a + n))).1
    rw [← HL.out.1, pcs_set, HL.out.1] at hst
    refine ⟨some ⟨g, 0, none⟩, c5, by rw [hll], ?_, HK.out.2.setCell (p := ⟨g, k * 2 + 1, none⟩) hgb _⟩
    rw [hll]
    exact hst
  ·have HR2 : Hid (r = if 16 ≤ k + 1 then .error 4 else .ok (l' ++ [p] ++ [⟨t, n⟩])) := Lib.hid (by rw [HR.out, if_neg h1, if_neg h2])
   clear HR
   by_cases h3 : 16 ≤ k + 1
   ·have HRR : Hid (r = .error 4) := Lib.hid (by rw [HR2.out, if_pos h3])
    have h3' : (16 : Int) ≤ (k : Int) + 1 := by omega
    clear HR2 h3
    go_wp2_with fail
    (refine bodyPost_ret (v := .tuple #[(.slice none 0 0), .int .i64 4]) (by simp [results, Tryz.results163, go_sem]) rfl ?_)
    rw [HRR.out]
    exact ⟨rfl, HK.out.2⟩
   ·have HRR : Hid (r = .ok (l' ++ [p] ++ [⟨t, n⟩])) := Lib.hid (by rw [HR2.out, if_neg h3])
    have h3' : ¬ (16 : Int) ≤ (k : Int) + 1 := by omega
    have HKa : Hid ((w5.alloc (.cells #[.int .i64 t, .int .i64 n] 140)).ownsRow w.heap.size 140 2 (.slice (some ⟨g, 0, none⟩) (k + 1) c5) (k + 1) (pcs (l' ++ [p])) ∧ Below w.heap.size w (w5.alloc (.cells #[.int .i64 t, .int .i64 n] 140))) := Lib.hid ⟨own_below HK.out.1 ((Below.refl _ _).alloc (Nat.le_refl _) _), HK.out.2.alloc HK.out.2.size _⟩
    clear HR2 h3
    go_wp2_with (at_builtin; go_loud (refine zN pt_elem _ _ rfl w.heap.size (some ⟨g, 0, none⟩) (k + 1) c5 _ rfl HKa.out.1 ⟨w5.heap.size, 0, none⟩ 1 [.int .i64 t, .int .i64 n] rfl rfl (two_new w5 (.int .i64 t) (.int .i64 n) _) (fun u hu => by simp only [List.mem_cons, List.not_mem_nil, or_false] at hu; rcases hu with rfl | rfl <;> rfl) (by omega) HKa.out.2.size rfl ?_); intro g7 c7 w7 hown7 hg7 hx7; have H7 := Lib.hid (And.intro hown7 (HKa.out.2.grown hg7 HKa.out.2.size (fun q e => own_base HKa.out.1 q e))); clear hown7 hg7 hx7)
    (refine bodyPost_ret (v := .tuple #[(.slice (some ⟨g7, 0, none⟩) (k + 1 + 1) c7), .int .i64 0]) (by simp [results, Tryz.results163, go_sem]) rfl ?_)
    rw [HRR.out]
    have hll : (l' ++ [p] ++ [(⟨t, n⟩ : Pt)]).length = k + 1 + 1 := by rw [List.length_append, HL.out.2]; rfl
    refine ⟨_, _, by rw [hll], ?_, H7.out.2⟩
    rw [hll, pcs_append]
    exact H7.out.1
end Go.Proofs.YtofabhenmplkoaaGreatDoor.evt

/- A network in which the arcs between two places take more ticks. The program. -/
namespace Go.Proofs.YtofabhenmplkoaaGreatDoor.evt
open Go.RowKit
open lib rd app els off typ big ins ord gen
theorem late_fits {l : List Pt} {t n : Int} {s : List Pt} (h : lateF l t n = .ok s) (hl : ∀ p ∈ l, PtFits p ∧ -1000000 ≤ p.a ∧ p.a ≤ 1000000) (ht : 0 ≤ t ∧ t ≤ 4096) (hn : 0 ≤ n ∧ n ≤ 4096) : (∀ p ∈ s, PtFits p) ∧ s.length ≤ l.length + 1 := by
 rcases List.eq_nil_or_concat l with rfl | ⟨l', p, rfl⟩
 ·have e : s = [⟨t, n⟩] := by
   have h' : (Except.ok [⟨t, n⟩] : Except Int (List Pt)) = .ok s := h
   injection h' with h'
   exact h'.symm
  subst e
  refine ⟨fun p hp => ?_, Nat.le_refl _⟩
  rw [List.mem_singleton] at hp
  subst hp
  unfold PtFits
  simp only
  omega
 ·rw [List.concat_eq_append] at h hl ⊢
  rw [late_snoc] at h
  have hp := hl p (by simp)
  split at h
  ·cases h
  ·split at h
   ·split at h
    ·cases h
    ·injection h with h
     subst h
     refine ⟨fun q hq => ?_, by simp⟩
     rcases List.mem_append.1 hq with hq | hq
     ·exact (hl q (by simp [hq])).1
     ·rw [List.mem_singleton] at hq
      subst hq
      have hf := hp.1
      unfold PtFits at hf ⊢
      simp only
      omega
   ·split at h
    ·cases h
    ·injection h with h
     subst h
     refine ⟨fun q hq => ?_, by simp⟩
     rcases List.mem_append.1 hq with hq | hq
     ·exact (hl q hq).1
     ·rw [List.mem_singleton] at hq
      subst hq
      unfold PtFits
      simp only
      omega
def SlwOut (w : World) (bd : Nat) (A0 : Option Addr) (d0 : Nat) (r : Except Int Net) (e : Ending) (w' : World) : Prop := match r with
 | .error k => e = .returned (.tuple #[.agg #[.slice none 0 0, .slice none 0 0], .int .i64 k]) ∧ Below w.heap.size w w'
 | .ok N => ∃ A c, e = .returned (.tuple #[.agg #[.slice A0 N.places.length d0, .slice A N.arcs.length c], .int .i64 0]) ∧ yK oArc w' (fun b => b < bd ∨ w.heap.size ≤ b) A N.arcs ∧ Below w.heap.size w w'
structure SlwSt (w : World) (bd : Nat) (A0 : Option Addr) (m d0 ob n : Nat) (B : Option Addr) (d : Nat) (CS : List Value) (xs : List Arc) (wx : World) : Prop where
 own : wx.ownsRow (w.heap.size + 2) 59 6 (.slice B n d) n CS
 els : EG oArc wx (fun b => some b ≠ (Value.slice B n d).ownBlock ∧ (b < bd ∨ w.heap.size + 2 ≤ b)) CS xs
 obx : Blk wx ob 25 (netC A0 m d0 B n d)
 rbx : Blk wx (w.heap.size + 1) 25 (netC none 0 0 none 0 0)
 bel : Below w.heap.size w wx
 low : w.heap.size + 2 ≤ ob
 ne : some ob ≠ (Value.slice B n d).ownBlock
section
variable {w wx wy : World} {A0 B : Option Addr} {bd m d0 ob n d : Nat} {CS : List Value} {xs : List Arc}
theorem SlwSt.size (h : SlwSt w bd A0 m d0 ob n B d CS xs wx) : w.heap.size + 2 < wx.heap.size := Nat.lt_of_le_of_lt h.low h.obx.lt
theorem SlwSt.below (h : SlwSt w bd A0 m d0 ob n B d CS xs wx) (hb : Below wx.heap.size wx wy) : SlwSt w bd A0 m d0 ob n B d CS xs wy :=
 ⟨own_below h.own hb, h.els.below hb, h.obx.below hb, h.rbx.below hb, h.bel.trans (hb.mono (by have := h.size; omega)), h.low, h.ne⟩
theorem SlwSt.mod {g k c' : Nat} {x : Arc} {s : List Pt} {C : Option Addr} (h : SlwSt w bd A0 m d0 ob n (some ⟨g, 0, none⟩) d CS xs wx) (hk : xs[k]? = some x) (hs : yK oPt wx (fun b => some b ≠ (Value.slice (some ⟨g, 0, none⟩) n d).ownBlock ∧ (b < bd ∨ w.heap.size + 2 ≤ b)) C s) :
  SlwSt w bd A0 m d0 ob n (some ⟨g, 0, none⟩) d (CS.set (k * 6 + 5) (.slice C s.length c')) (xs.set k { x with slow := s }) (wx.setCell ⟨g, k * 6 + 5, none⟩ (.slice C s.length c')) := by
 have hkl := (List.getElem?_eq_some_iff.1 hk).1
 have hgr := yH wx g (k * 6 + 5) (.slice C s.length c')
 have hgb : w.heap.size + 2 ≤ g := (World.ownsRow.lt h.own g rfl).1
 have hkp : ∀ b, b < wx.heap.size → (some b ≠ (Value.slice (some ⟨g, 0, none⟩) n d).ownBlock ∧ (b < bd ∨ w.heap.size + 2 ≤ b)) → (some b ≠ (Value.slice (some ⟨g, 0, none⟩) n d).ownBlock ∧ (b < bd ∨ w.heap.size + 2 ≤ b)) ∧ (wx.setCell ⟨g, k * 6 + 5, none⟩ (.slice C s.length c')).heap[b]? = wx.heap[b]? := fun b hb hp => ⟨hp, hgr.block b hb hp.1⟩
 refine ⟨(h.own.stored _ _).1, ?_, (hgr.block _ h.obx.lt h.ne).trans h.obx, (hgr.block _ h.rbx.lt (fun e => by injection e; omega)).trans h.rbx, h.bel.setCell (p := ⟨g, k * 6 + 5, none⟩) (by show w.heap.size ≤ g; omega) _, h.low, h.ne⟩
 refine EG.mod (r := oArc) (h.els.keep hgr.size hkp) hkl (show 5 < 6 by decide) ?_
 obtain ⟨C0, c0, C1, c1, hc, h0, h1, hf⟩ := oArc_at (h.els.2 k x hk)
 rw [hc]
 exact oArc_mk (t := { x with slow := s }) (h0.keep hgr.size hkp) (hs.keep hgr.size hkp) hf
theorem SlwSt.elem {g k : Nat} {x : Arc} (h : SlwSt w bd A0 m d0 ob n (some ⟨g, 0, none⟩) d CS xs wx) (hk : xs[k]? = some x) (hn : xs.length = n) :
  ∃ C0 c0 C1 c1, CellsAt wx ⟨g, k * 6, none⟩ (zB x C0 c0 C1 c1) ∧ RowAt rPt wx wx.heap.size C1 x.slow := by
 have hkl := (List.getElem?_eq_some_iff.1 hk).1
 obtain ⟨c, h3, h4, h5⟩ := h.els.at_ hk
 obtain ⟨C0, c0, C1, c1, rfl, h0, h1, hf⟩ := oArc_at h3
 refine ⟨C0, c0, C1, c1, fun j u hu => ?_, h1.row⟩
 have hj : j < 6 := (List.getElem?_eq_some_iff.1 hu).1
 rw [Addr.add_mid, h.own.cellAt (k * 6 + j) (by omega)]
 exact h5 j u hu
end
end Go.Proofs.YtofabhenmplkoaaGreatDoor.evt

/- Arcs that are drawn: the reference. A block with a row that grows. -/
namespace Go.Proofs.YtofabhenmplkoaaGreatDoor.gen
open Go.RowKit
open lib rd app els typ txt big off
structure BSt (T bt et : TypeId) (sz : Nat) (W : World) (p B1 ob : Nat) (s : Int) (cs : List Value) (A : Option Addr) (k c : Nat) (l : List Value) (wx : World) : Prop where
 gs : GS W p T s wx
 blk : Blk wx ob bt cs
 own : wx.ownsRow B1 et sz (.slice A k c) k l
 size : B1 ≤ wx.heap.size
def BPl (W : World) (p B1 ob : Nat) : Prop := p < W.heap.size ∧ W.heap.size ≤ ob ∧ ob < B1
section
variable {T bt et : TypeId} {sz : Nat} {W wx wy : World} {p B1 ob : Nat} {s s' : Int} {cs : List Value} {A : Option Addr} {k c : Nat} {l : List Value}
theorem BSt.set (h : BSt T bt et sz W p B1 ob s cs A k c l wx) (hl : BPl W p B1 ob) (i : Nat) (u : Value) : BSt T bt et sz W p B1 ob s (cs.set i u) A k c l (wx.setCell ⟨ob, i, none⟩ u) := by
 obtain ⟨h2, h3, h4⟩ := hl
 exact ⟨h.gs.set h3 i u, h.blk.set i u, own_fr h.own (Fr.set (q := ob) wx i u (fun q hq => by have h' : B1 ≤ q := hq; omega)), by have := h.size; simp [World.setCell]; omega⟩
theorem BSt.drew (h : BSt T bt et sz W p B1 ob s cs A k c l wx) : BSt T bt et sz W p B1 ob s cs A k c l wx.drew := ⟨h.gs.drew, h.blk, h.own, h.size⟩
theorem BSt.draw (h : BSt T bt et sz W p B1 ob s cs A k c l wx) (hl : BPl W p B1 ob) (hb : Boxed wy p T (.int .i64 s')) (hg : wx.grownBy wy (some p)) : BSt T bt et sz W p B1 ob s' cs A k c l wy := by
 obtain ⟨h2, h3, h4⟩ := hl
 exact ⟨h.gs.draw hb hg, h.blk.kept hg (fun e => by injection e; omega), own_draw h.own (by omega) hg, Nat.le_trans h.size hg.size⟩
theorem BSt.below (h : BSt T bt et sz W p B1 ob s cs A k c l wx) (hb : Below wx.heap.size wx wy) : BSt T bt et sz W p B1 ob s cs A k c l wy :=
 ⟨h.gs.below hb, h.blk.below hb, own_below h.own hb, Nat.le_trans h.size hb.size⟩
theorem BSt.app {g n c' : Nat} {l' : List Value} (h : BSt T bt et sz W p B1 ob s cs A k c l wx) (hl : BPl W p B1 ob) (ho : wy.ownsRow B1 et sz (.slice (some ⟨g, 0, none⟩) n c') n l') (hg : wx.grownBy wy (Value.slice A k c).ownBlock) : BSt T bt et sz W p B1 ob s cs (some ⟨g, 0, none⟩) n c' l' wy := by
 obtain ⟨h2, h3, h4⟩ := hl
 have hne : ∀ q, q < B1 → some q ≠ (Value.slice A k c).ownBlock := fun q hq e => by have := (World.ownsRow.lt h.own q e.symm).1; omega
 exact ⟨h.gs.grow hg (fun q e => by have := (World.ownsRow.lt h.own q e).1; omega), h.blk.kept hg (hne _ h4), ho, Nat.le_trans h.size hg.size⟩
end
def arcL (i j m : Int) (tr : Value) : List Value := [.int .i64 i, .int .i64 j, .int .i64 0, .int .i64 m, tr, .slice none 0 0]
theorem stArc' : StructOf 59 6 := ⟨⟨_, Tryz.underlying59⟩, by kernel_rfl⟩
end Go.Proofs.YtofabhenmplkoaaGreatDoor.gen

/- A network in which the arcs between two places take more ticks: the walk of the program. -/
namespace Go.Proofs.YtofabhenmplkoaaGreatDoor.evt
open Go.RowKit
open lib rd app els off typ big ins ord gen net
open win (tickB)
theorem row_fits {w : World} {B : Nat} {A : Option Addr} {l : List Pt} (h : RowAt rPt w B A l) : ∀ p ∈ l, PtFits p := fun p hp => by
 obtain ⟨i, hi⟩ := List.mem_iff_getElem?.1 hp
 obtain ⟨ad, cs, _, _, h3, _⟩ := h.2 i p hi
 exact (rPt_at h3).2
theorem arc_ones {w : World} {B : Nat} : ∀ (cs : List Value) (x : Arc), rArc.at_ w B cs x → ∀ u ∈ cs, u.oneCell' = true := fun cs x h => by
 obtain ⟨C, cc, D, dd, rfl, _⟩ := rArc_at h
 intro u hu
 simp only [zB, List.mem_cons, List.not_mem_nil, or_false] at hu
 rcases hu with rfl | rfl | rfl | rfl | rfl | rfl <;> rfl
theorem yC (o : Arc) (C : Option Addr) (c : Nat) (D : Option Addr) (d : Nat) : ∀ u ∈ zB o C c D d, u.oneCell' = true := fun u hu => by
 simp only [zB, List.mem_cons, List.not_mem_nil, or_false] at hu
 rcases hu with rfl | rfl | rfl | rfl | rfl | rfl <;> rfl
theorem late_err {l : List Pt} {t n k : Int} (h : lateF l t n = .error k) : k = 2 ∨ k = 4 := by
 rcases List.eq_nil_or_concat l with rfl | ⟨l', p, rfl⟩
 ·have h' : (Except.ok [⟨t, n⟩] : Except Int (List Pt)) = .error k := h
  cases h'
 ·rw [List.concat_eq_append, late_snoc] at h
  split at h
  ·injection h with h
   omega
  ·split at h
   ·split at h
    ·injection h with h
     omega
    ·cases h
   ·split at h
    ·injection h with h
     omega
    ·cases h
theorem own_ne {w : World} {base : Nat} {e : TypeId} {size n : Nat} {v : Value} {xs : List Value} {b : Nat} {t : TypeId} {cs : List Value} (h : w.ownsRow base e size v n xs) (hb : Blk w b t cs) (hne : e ≠ t) : some b ≠ v.ownBlock := fun e' => by
 rcases h.2 with ⟨rfl, _⟩ | ⟨g, cap, cur, rfl, _, hg, _⟩
 ·cases e'
 ·have hbg : b = g := Option.some.inj e'
  subst hbg
  rw [show w.heap[b]? = _ from hb] at hg
  injection hg with hg
  injection hg with _ hg _
  exact hne hg.symm
theorem own_skip {w w' : World} {base : Nat} {e : TypeId} {size n : Nat} {v : Value} {xs : List Value} {b : Nat} {t : TypeId} {cs : List Value} (h : w.ownsRow base e size v n xs) (hb : Blk w b t cs) (hne : e ≠ t) (hk : ∀ k, k ≠ b → w'.heap[k]? = w.heap[k]?) : w'.ownsRow base e size v n xs := by
 have h9 := own_ne h hb hne
 rcases h.2 with ⟨h1, h2⟩ | ⟨g, cap, cur, rfl, h2, h3, h4⟩
 ·exact ⟨h.1, .inl ⟨h1, h2⟩⟩
 ·exact ⟨h.1, .inr ⟨g, cap, cur, rfl, h2, (hk g (fun e' => h9 (by rw [e']; rfl))).trans h3, h4⟩⟩
set_option maxRecDepth 20000 in
set_option maxHeartbeats 8000000 in
theorem slower_any (N : Net) (A0 : Option Addr) (d0 : Nat) (A1 : Option Addr) (d1 : Nat) (f t at_ n : Int) (bd : Nat) (w : World) (hbd : bd ≤ w.heap.size) (h1 : RowAt rArc w bd A1 N.arcs) (hl : N.arcs.length ≤ 100000)
  (hs : ∀ a ∈ N.arcs, a.slow.length ≤ 500 ∧ ∀ p ∈ a.slow, -1000000 ≤ p.a ∧ p.a ≤ 1000000) :
  Calls Tryz.prog 104 #[.agg #[.slice A0 N.places.length d0, .slice A1 N.arcs.length d1], .int .i64 f, .int .i64 t, .int .i64 at_, .int .i64 n] w (SlwOut w bd A0 d0 (slwF N f t at_ n)) := by
 obtain ⟨W0, hW0⟩ : ∃ W0, (w.alloc (.cells (netC A0 N.places.length d0 A1 N.arcs.length d1).toArray 25)).alloc (.cells (netC none 0 0 none 0 0).toArray 25) = W0 := ⟨_, rfl⟩
 have hB0 : Below w.heap.size w W0 := by rw [← hW0]; exact ((Below.refl _ _).alloc (Nat.le_refl _) _).alloc (by simp) _
 have hz : W0.heap.size = w.heap.size + 2 := by rw [← hW0]; simp
 have b0 : Blk W0 w.heap.size 25 (netC A0 N.places.length d0 A1 N.arcs.length d1) := by
  rw [← hW0]
  exact (Blk.new w _ _).kept (World.grownBy_alloc _ _ none) (by simp)
 have b1 : Blk W0 (w.heap.size + 1) 25 (netC none 0 0 none 0 0) := by
  rw [← hW0]
  have h := Blk.new (w.alloc (.cells (netC A0 N.places.length d0 A1 N.arcs.length d1).toArray 25)) 25 (netC none 0 0 none 0 0)
  rw [show (w.alloc (.cells (netC A0 N.places.length d0 A1 N.arcs.length d1).toArray 25)).heap.size = w.heap.size + 1 by simp] at h
  exact h
 have hW1 : (w.alloc (.cells #[.slice A0 N.places.length d0, .slice A1 N.arcs.length d1] 25)).alloc (.cells #[.slice none 0 0, .slice none 0 0] 25) = W0 := hW0
 obtain ⟨CS, hcs, hca, hcb, hone⟩ := RowAt.cells (r := rArc) (by decide) h1
 have HEL := Lib.hid (fun (P : Nat → Prop) (hP : ∀ b, b < bd → P b) => EG.of_cells (r := oArc) (P := P) hcs (fun _ _ => oArc_low hbd hP))
 have HON := Lib.hid (hone (fun u => u.oneCell' = true) arc_ones)
 obtain ⟨m, hm⟩ : ∃ m, N.places.length = m := ⟨_, rfl⟩
 obtain ⟨n1, hn1⟩ : ∃ m, N.arcs.length = m := ⟨_, rfl⟩
 have HRD : Hid (∀ w', Below w.heap.size w w' → Reads w' w.heap.size 6 A1 n1 CS) := Lib.hid (fun w' hb => ⟨by rw [← hn1]; exact hcs.1, fun h0 => by
  obtain ⟨ad, h3, h4⟩ := hcb (by omega)
  exact ⟨ad, h3, Nat.lt_of_lt_of_le h4 hbd, (hca ad h3).below hb (Nat.lt_of_lt_of_le h4 hbd)⟩⟩)
 have HSF : Hid (slwF N f t at_ n = if ¬ (placeB m f = true ∧ placeB m t = true) then .error 11 else if ¬ (tickB at_ = true ∧ tickB n = true) then .error 2 else match slwTo N.arcs f t at_ n n1 with
  | .error e => .error e
  | .ok (r, b) => if b then .ok ⟨N.places, r⟩ else .error 12) := Lib.hid (by rw [← hm, ← hn1]; rfl)
 obtain ⟨r, hr⟩ : ∃ r, slwF N f t at_ n = r := ⟨_, rfl⟩
 rw [hr] at HSF ⊢
 rw [hm, hn1] at hW1 b0 ⊢
 rw [hn1] at hl
 have HNN := Lib.hid (And.intro hm hn1)
 have HSL := Lib.hid hs
 have HX := Lib.hid b0
 have HY := Lib.hid b1
 have HW1 := Lib.hid hW1
 clear h1 hs hcs hca hcb hone hm hn1 hr hW0 hW1 b0 b1
 go_enter Tryz.func104, Tryz.ntmps104
 go_upto_region 1 with fail
 rw [HW1.out]
 clear HW1
 go_wp2_with ((with_reducible refine zH stNet _ rfl ⟨w.heap.size, 0, none⟩ (netC A0 m d0 A1 n1 d1) ?_ ?_ ?_ ?_ ?_); exact rfl; exact rfl; exact HX.out.cells; exact rfl)
 refine (place_any m A0 d0 A1 n1 d1 f W0).mono ?_
 rintro e w1 ⟨rfl, b1⟩
 obtain ⟨p1, hp1⟩ : ∃ q, placeB m f = q := ⟨_, rfl⟩
 rw [hp1] at HSF ⊢
 clear hp1
 have HB1 := Lib.hid b1
 clear b1
 cases p1
 ·have HRR : Hid (r = .error 11) := Lib.hid (by rw [HSF.out, if_pos (by simp)])
  go_wp2_with ((with_reducible refine zJ stNet rfl _ _ rfl (w.heap.size + 1) (netC none 0 0 none 0 0) (netC none 0 0 none 0 0) ?_ ?_ ?_ ?_ ?_ (yD _ _ _ _ _ _) ?_); exact rfl; exact rfl; exact HY.out.below HB1.out; exact rfl; exact rfl; intro wz k1 k2 k3 k4; have K := lib.h4 k1 k2 k3 k4; clear k1 k2 k3 k4)
  have HRz : Blk wz (w.heap.size + 1) 25 (netC none 0 0 none 0 0) := K.out.1
  refine bodyPost_ret (v := .tuple #[.agg #[.slice none 0 0, .slice none 0 0], .int .i64 11]) (big.zK stNet Tryz.results104 rfl rfl HRz.cells rfl) rfl ?_
  rw [HRR.out]
  exact ⟨rfl, (hB0.trans (HB1.out.mono (by omega))).trans (K.out.2.2.2.mono (by omega))⟩
 go_wp2_with ((with_reducible refine zH stNet _ rfl ⟨w.heap.size, 0, none⟩ (netC A0 m d0 A1 n1 d1) ?_ ?_ ?_ ?_ ?_); exact rfl; exact rfl; exact (HX.out.below HB1.out).cells; exact rfl)
 refine (place_any m A0 d0 A1 n1 d1 t w1).mono ?_
 rintro e w2 ⟨rfl, b2⟩
 have hz1 := HB1.out.size
 have HB2 := Lib.hid (HB1.out.trans (b2.mono hz1))
 obtain ⟨p2, hp2⟩ : ∃ q, placeB m t = q := ⟨_, rfl⟩
 rw [hp2] at HSF ⊢
 clear hp2 b2 hz1
 cases p2
 ·have HRR : Hid (r = .error 11) := Lib.hid (by rw [HSF.out, if_pos (by simp)])
  go_wp2_with ((with_reducible refine zJ stNet rfl _ _ rfl (w.heap.size + 1) (netC none 0 0 none 0 0) (netC none 0 0 none 0 0) ?_ ?_ ?_ ?_ ?_ (yD _ _ _ _ _ _) ?_); exact rfl; exact rfl; exact HY.out.below HB2.out; exact rfl; exact rfl; intro wz k1 k2 k3 k4; have K := lib.h4 k1 k2 k3 k4; clear k1 k2 k3 k4)
  have HRz : Blk wz (w.heap.size + 1) 25 (netC none 0 0 none 0 0) := K.out.1
  refine bodyPost_ret (v := .tuple #[.agg #[.slice none 0 0, .slice none 0 0], .int .i64 11]) (big.zK stNet Tryz.results104 rfl rfl HRz.cells rfl) rfl ?_
  rw [HRR.out]
  exact ⟨rfl, (hB0.trans (HB2.out.mono (by omega))).trans (K.out.2.2.2.mono (by omega))⟩
 have HSF1 : Hid (r = if ¬ (tickB at_ = true ∧ tickB n = true) then .error 2 else match slwTo N.arcs f t at_ n n1 with
  | .error e => .error e
  | .ok (r, b) => if b then .ok ⟨N.places, r⟩ else .error 12) := Lib.hid (by rw [HSF.out, if_neg (by simp)])
 clear HSF
 go_wp2_with fail
 refine (ntick_any at_ w2).mono ?_
 rintro e w3 ⟨rfl, rfl⟩
 cases hp3 : tickB at_
 ·have HRR : Hid (r = .error 2) := Lib.hid (by rw [HSF1.out, hp3, if_pos (by simp)])
  clear hp3
  go_wp2_with ((with_reducible refine zJ stNet rfl _ _ rfl (w.heap.size + 1) (netC none 0 0 none 0 0) (netC none 0 0 none 0 0) ?_ ?_ ?_ ?_ ?_ (yD _ _ _ _ _ _) ?_); exact rfl; exact rfl; exact HY.out.below HB2.out; exact rfl; exact rfl; intro wz k1 k2 k3 k4; have K := lib.h4 k1 k2 k3 k4; clear k1 k2 k3 k4)
  have HRz : Blk wz (w.heap.size + 1) 25 (netC none 0 0 none 0 0) := K.out.1
  refine bodyPost_ret (v := .tuple #[.agg #[.slice none 0 0, .slice none 0 0], .int .i64 2]) (big.zK stNet Tryz.results104 rfl rfl HRz.cells rfl) rfl ?_
  rw [HRR.out]
  exact ⟨rfl, (hB0.trans (HB2.out.mono (by omega))).trans (K.out.2.2.2.mono (by omega))⟩
 have hat : 0 ≤ at_ ∧ at_ ≤ 4096 := by unfold tickB at hp3; simpa using hp3
 have HAT := Lib.hid hat
 rw [hp3] at HSF1
 clear hp3 hat
 go_wp2_with fail
 refine (ntick_any n w2).mono ?_
 rintro e w3 ⟨rfl, rfl⟩
 cases hp4 : tickB n
 ·have HRR : Hid (r = .error 2) := Lib.hid (by rw [HSF1.out, hp4, if_pos (by simp)])
  clear hp4
  go_wp2_with ((with_reducible refine zJ stNet rfl _ _ rfl (w.heap.size + 1) (netC none 0 0 none 0 0) (netC none 0 0 none 0 0) ?_ ?_ ?_ ?_ ?_ (yD _ _ _ _ _ _) ?_); exact rfl; exact rfl; exact HY.out.below HB2.out; exact rfl; exact rfl; intro wz k1 k2 k3 k4; have K := lib.h4 k1 k2 k3 k4; clear k1 k2 k3 k4)
  have HRz : Blk wz (w.heap.size + 1) 25 (netC none 0 0 none 0 0) := K.out.1
  refine bodyPost_ret (v := .tuple #[.agg #[.slice none 0 0, .slice none 0 0], .int .i64 2]) (big.zK stNet Tryz.results104 rfl rfl HRz.cells rfl) rfl ?_
  rw [HRR.out]
  exact ⟨rfl, (hB0.trans (HB2.out.mono (by omega))).trans (K.out.2.2.2.mono (by omega))⟩
 have hnt : 0 ≤ n ∧ n ≤ 4096 := by unfold tickB at hp4; simpa using hp4
 have HNT := Lib.hid hnt
 have HSF2 : Hid (r = match slwTo N.arcs f t at_ n n1 with
  | .error e => .error e
  | .ok (r, b) => if b then .ok ⟨N.places, r⟩ else .error 12) := Lib.hid (by rw [HSF1.out, hp4, if_neg (by simp)])
 clear HSF1 hp4 hnt
 have hz2 := HB2.out.size
 have HBW := Lib.hid (hB0.trans (HB2.out.mono (by omega)))
 go_upto_region 5 with fail
 go_cut [12] (fun v wx => ∃ (ob : Nat) (B : Option Addr) (d : Nat), v = .pointer (some ⟨ob, 0, none⟩) ∧ SlwSt w bd A0 m d0 ob n1 B d CS N.arcs wx)
 case first => as_aux_lemma =>
  have HSS : Hid (∀ w', Below w2.heap.size w2 w' → w'.cell? ⟨w.heap.size, 0, none⟩ = some (.slice A0 m d0) ∧ w'.cell? ⟨w.heap.size, 1, none⟩ = some (.slice A1 n1 d1)) := Lib.hid (fun w' hb => by
   have h := HX.out.below (HB2.out.trans (hb.mono hz2))
   exact ⟨h.cell (j := 0) rfl, h.cell (j := 1) rfl⟩)
  (refine wp_region_held_drew (S := (fun w' => w'.cell? ⟨w.heap.size, 0, none⟩ = some (.slice A0 m d0) ∧ w'.cell? ⟨w.heap.size, 1, none⟩ = some (.slice A1 n1 d1))) (by kernel_rfl) ?_ (fun hHeld => ?_))
  ·exact HSS.out _ (Below.refl _ _).drew
  (refine lib.tk 0 ?_ rfl (by kernel_rfl) (fun _ _ _ h => h) ?_ (by assumption) ?_; rotate_left; (focus (intro w hSw; (try dsimp only at hSw); go_simp; all_goals with_reducible rfl)); (try simp only [lib.hly]))
  (refine lib.tk 1 ?_ rfl (by kernel_rfl) (fun _ _ _ h => h) ?_ (by assumption) ?_; rotate_left; (focus (intro w hSw; (try dsimp only at hSw); go_simp; all_goals with_reducible rfl)); (try simp only [lib.hly]))
  (refine lib.tk 3 ?_ rfl (by kernel_rfl) (fun _ _ _ h => h) ?_ (by assumption) ?_; rotate_left; (focus (intro w hSw; (try dsimp only at hSw); go_simp; all_goals with_reducible rfl)); (try simp only [lib.hly]))
  (refine lib.tk 4 ?_ rfl (by kernel_rfl) (fun _ _ _ h => h) ?_ (by assumption) ?_; rotate_left; (focus (intro w hSw; (try dsimp only at hSw); go_simp; all_goals with_reducible rfl)); (try simp only [lib.hly]))
  refine wpAnyH_ready (rs := [2, 7]) (by kernel_rfl) (by simp) ?_
  refine AllReadyH.cons rfl (fun K hK => ?_) (AllReadyH.cons rfl (fun K hK => ?_) AllReadyH.nil)
  ·go_simp
   have BA : Below w2.heap.size w2 (w2.drew.alloc (.cells #[] 59)) := ((Below.refl _ _).drew).alloc (Nat.le_refl _) _
   have HEM : Hid ((w2.drew.alloc (.cells #[] 59)).ownsRow (w.heap.size + 2) 59 6 (.slice (some ⟨w2.drew.heap.size, 0, none⟩) 0 0) 0 []) := Lib.hid (World.ownsRow_made w2.drew #[] 0 (by show w.heap.size + 2 ≤ w2.heap.size; omega) (by decide) rfl)
   refine hK.out _ _ (HSS.out _ BA) (fun hHeld => ?_)
   clear hK K
   (try simp only [lib.hly])
   refine wpAnyH_ready (rs := [5, 7]) (by kernel_rfl) (by simp) ?_
   refine AllReadyH.cons rfl (fun K hK => ?_) (AllReadyH.cons rfl (fun K hK => ?_) AllReadyH.nil)
   ·skip
    refine step_appN arc_elem _ _ rfl (w.heap.size + 2) (.slice (some ⟨w2.drew.heap.size, 0, none⟩) 0 0) 0 [] rfl (HEM.out) w.heap.size A1 n1 d1 CS rfl (HRD.out _ (HBW.out.trans (BA.mono (by omega)))) HON.out (by omega) ((by have h := BA.size; omega)) rfl ?_
    intro A5 c5 w5 hown5 hg5
    rw [Nat.zero_add, List.nil_append] at hown5
    have B5 : Below w2.heap.size w2 w5 := BA.grown hg5 BA.size (fun q e => by have h : w2.heap.size = q := Option.some.inj e; omega)
    refine hK.out _ _ (HSS.out _ B5) (fun hHeld => ?_)
    clear hK K
    (try simp only [lib.hly])
    (refine lib.tk 6 ?_ rfl (by kernel_rfl) (fun _ _ _ h => h) ?_ (by assumption) ?_; rotate_left; (focus (intro w hSw; (try dsimp only at hSw); go_simp; all_goals with_reducible rfl)); (try simp only [lib.hly]))
    (refine wpAnyH_ready (rs := [7]) (by kernel_rfl) (by simp) ?_; refine AllReadyH.cons rfl (fun K hK => ?_) AllReadyH.nil)
    go_simp
    have B6 : Below w2.heap.size w2 (w5.alloc (.cells (netC none 0 0 none 0 0).toArray 25)) := B5.alloc B5.size _
    refine hK.out _ _ (HSS.out _ B6) (fun hHeld => ?_)
    clear hK K
    (try simp only [lib.hly])
    (refine wpAnyH_ready (rs := [8]) (by kernel_rfl) (by simp) ?_; refine AllReadyH.cons rfl (fun K hK => ?_) AllReadyH.nil)
    refine yE stNet rfl _ _ rfl (w5.heap.size) (netC none 0 0 none 0 0) (netC A0 m d0 A5 n1 c5) rfl rfl (Blk.new w5 _ _) rfl rfl (yD _ _ _ _ _ _) ?_
    intro w8 k1 k2 k3 k4
    have h8 := own_skip (own_below hown5 ((Below.refl _ _).alloc (Nat.le_refl _) _)) ((Blk.new w5 25 (netC none 0 0 none 0 0))) (by decide) k2
    have B8 : Below w2.heap.size w2 w8 := (B6).trans (k4.mono (B5.size))
    have HST : Hid (SlwSt w bd A0 m d0 (w5.heap.size) n1 A5 c5 CS N.arcs w8) := Lib.hid (by
     have hbw : Below w.heap.size w w8 := HBW.out.trans (B8.mono (by omega))
     refine ⟨h8, (HEL.out _ (fun b hb => ⟨fun e => ?_, .inl hb⟩)).below hbw, k1, HY.out.below (HB2.out.trans (B8.mono hz2)), hbw, by have h := B5.size; omega, own_ne h8 (show Blk w8 _ _ _ from k1) (by decide)⟩
     have h := (World.ownsRow.lt h8 b e.symm).1
     omega)
    refine hK.out _ _ (HSS.out _ B8) (fun hHeld => ?_)
    clear hK K
    (try simp only [lib.hly])
    (refine wpAnyH_done (by kernel_rfl) ?_ _)
    go_wp2
    go_meet
    exact ⟨_, _, _, rfl, HST.out⟩
   ·go_simp
    obtain ⟨V, hV⟩ : ∃ V, ((w2.alloc (.cells #[] 59)).alloc (.cells #[.slice none 0 0, .slice none 0 0] 25)).drew = V := ⟨_, rfl⟩
    rw [hV]
    have B6 : Below w2.heap.size w2 V := by rw [← hV]; exact (((Below.refl _ _).alloc (Nat.le_refl _) _).alloc (by simp) _).drew
    have HEM : Hid (V.ownsRow (w.heap.size + 2) 59 6 (.slice (some ⟨w2.heap.size, 0, none⟩) 0 0) 0 []) := Lib.hid (by
     rw [← hV]
     exact own_below (World.ownsRow_made w2 #[] 0 (by omega) (by decide) rfl) ((Below.refl _ _).alloc (Nat.le_refl _) _).drew)
    have HBN : Hid (Blk V (w2.heap.size + 1) 25 (netC none 0 0 none 0 0)) := Lib.hid (by
     rw [← hV]
     have h := Blk.new (w2.alloc (.cells #[] 59)) 25 (netC none 0 0 none 0 0)
     rw [show (w2.alloc (.cells #[] 59)).heap.size = w2.heap.size + 1 by simp] at h
     exact h)
    clear hV
    refine hK.out _ _ (HSS.out _ B6) (fun hHeld => ?_)
    clear hK K
    (try simp only [lib.hly])
    (refine wpAnyH_ready (rs := [5]) (by kernel_rfl) (by simp) ?_; refine AllReadyH.cons rfl (fun K hK => ?_) AllReadyH.nil)
    refine step_appN arc_elem _ _ rfl (w.heap.size + 2) (.slice (some ⟨w2.heap.size, 0, none⟩) 0 0) 0 [] rfl (HEM.out) w.heap.size A1 n1 d1 CS rfl (HRD.out _ (HBW.out.trans (B6.mono (by omega)))) HON.out (by omega) ((by have h := B6.size; omega)) rfl ?_
    intro A5 c5 w5 hown5 hg5
    rw [Nat.zero_add, List.nil_append] at hown5
    have B7 : Below w2.heap.size w2 w5 := B6.grown hg5 B6.size (fun q e => by have h : w2.heap.size = q := Option.some.inj e; omega)
    have HBK : Hid (Blk w5 (w2.heap.size + 1) 25 (netC none 0 0 none 0 0)) := Lib.hid (HBN.out.kept hg5 (fun e => by have h : w2.heap.size + 1 = w2.heap.size := Option.some.inj e; omega))
    refine hK.out _ _ (HSS.out _ B7) (fun hHeld => ?_)
    clear hK K
    (try simp only [lib.hly])
    (refine lib.tk 6 ?_ rfl (by kernel_rfl) (fun _ _ _ h => h) ?_ (by assumption) ?_; rotate_left; (focus (intro w hSw; (try dsimp only at hSw); go_simp; all_goals with_reducible rfl)); (try simp only [lib.hly]))
    (refine wpAnyH_ready (rs := [8]) (by kernel_rfl) (by simp) ?_; refine AllReadyH.cons rfl (fun K hK => ?_) AllReadyH.nil)
    refine yE stNet rfl _ _ rfl ((w2.heap.size + 1)) (netC none 0 0 none 0 0) (netC A0 m d0 A5 n1 c5) rfl rfl (HBK.out) rfl rfl (yD _ _ _ _ _ _) ?_
    intro w8 k1 k2 k3 k4
    have h8 := own_skip (hown5) (HBK.out) (by decide) k2
    have B8 : Below w2.heap.size w2 w8 := (B7).trans (k4.mono ((show w2.heap.size ≤ w2.heap.size + 1 by omega)))
    have HST : Hid (SlwSt w bd A0 m d0 ((w2.heap.size + 1)) n1 A5 c5 CS N.arcs w8) := Lib.hid (by
     have hbw : Below w.heap.size w w8 := HBW.out.trans (B8.mono (by omega))
     refine ⟨h8, (HEL.out _ (fun b hb => ⟨fun e => ?_, .inl hb⟩)).below hbw, k1, HY.out.below (HB2.out.trans (B8.mono hz2)), hbw, by have h := (show w2.heap.size ≤ w2.heap.size + 1 by omega); omega, own_ne h8 (show Blk w8 _ _ _ from k1) (by decide)⟩
     have h := (World.ownsRow.lt h8 b e.symm).1
     omega)
    refine hK.out _ _ (HSS.out _ B8) (fun hHeld => ?_)
    clear hK K
    (try simp only [lib.hly])
    (refine wpAnyH_done (by kernel_rfl) ?_ _)
    go_wp2
    go_meet
    exact ⟨_, _, _, rfl, HST.out⟩
  ·go_simp
   have BA : Below w2.heap.size w2 (w2.alloc (.cells #[.slice none 0 0, .slice none 0 0] 25)).drew := ((Below.refl _ _).alloc (Nat.le_refl _) _).drew
   refine hK.out _ _ (HSS.out _ BA) (fun hHeld => ?_)
   clear hK K
   (try simp only [lib.hly])
   (refine wpAnyH_ready (rs := [2]) (by kernel_rfl) (by simp) ?_; refine AllReadyH.cons rfl (fun K hK => ?_) AllReadyH.nil)
   go_simp
   obtain ⟨V, hV⟩ : ∃ V, ((w2.alloc (.cells #[.slice none 0 0, .slice none 0 0] 25)).alloc (.cells #[] 59)).drew = V := ⟨_, rfl⟩
   rw [hV]
   have B6 : Below w2.heap.size w2 V := by rw [← hV]; exact (((Below.refl _ _).alloc (Nat.le_refl _) _).alloc (by simp) _).drew
   have HEM : Hid (V.ownsRow (w.heap.size + 2) 59 6 (.slice (some ⟨w2.heap.size + 1, 0, none⟩) 0 0) 0 []) := Lib.hid (by
    rw [← hV]
    have h := World.ownsRow_made (w2.alloc (.cells #[.slice none 0 0, .slice none 0 0] 25)) (base := w.heap.size + 2) (e := 59) (size := 6) #[] 0 (by simp; omega) (by decide) rfl
    rw [show (w2.alloc (.cells #[.slice none 0 0, .slice none 0 0] 25)).heap.size = w2.heap.size + 1 by simp] at h
    exact h)
   have HBN : Hid (Blk V w2.heap.size 25 (netC none 0 0 none 0 0)) := Lib.hid (by
    rw [← hV]
    exact (Blk.new w2 25 (netC none 0 0 none 0 0)).below ((Below.refl _ _).alloc (Nat.le_refl _) _).drew)
   clear hV
   refine hK.out _ _ (HSS.out _ B6) (fun hHeld => ?_)
   clear hK K
   (try simp only [lib.hly])
   (refine wpAnyH_ready (rs := [5]) (by kernel_rfl) (by simp) ?_; refine AllReadyH.cons rfl (fun K hK => ?_) AllReadyH.nil)
   refine step_appN arc_elem _ _ rfl (w.heap.size + 2) (.slice (some ⟨w2.heap.size + 1, 0, none⟩) 0 0) 0 [] rfl (HEM.out) w.heap.size A1 n1 d1 CS rfl (HRD.out _ (HBW.out.trans (B6.mono (by omega)))) HON.out (by omega) ((by have h := B6.size; omega)) rfl ?_
   intro A5 c5 w5 hown5 hg5
   rw [Nat.zero_add, List.nil_append] at hown5
   have B7 : Below w2.heap.size w2 w5 := B6.grown hg5 B6.size (fun q e => by have h : w2.heap.size + 1 = q := Option.some.inj e; omega)
   have HBK : Hid (Blk w5 (w2.heap.size) 25 (netC none 0 0 none 0 0)) := Lib.hid (HBN.out.kept hg5 (fun e => by have h : w2.heap.size = w2.heap.size + 1 := Option.some.inj e; omega))
   refine hK.out _ _ (HSS.out _ B7) (fun hHeld => ?_)
   clear hK K
   (try simp only [lib.hly])
   (refine lib.tk 6 ?_ rfl (by kernel_rfl) (fun _ _ _ h => h) ?_ (by assumption) ?_; rotate_left; (focus (intro w hSw; (try dsimp only at hSw); go_simp; all_goals with_reducible rfl)); (try simp only [lib.hly]))
   (refine wpAnyH_ready (rs := [8]) (by kernel_rfl) (by simp) ?_; refine AllReadyH.cons rfl (fun K hK => ?_) AllReadyH.nil)
   refine yE stNet rfl _ _ rfl ((w2.heap.size)) (netC none 0 0 none 0 0) (netC A0 m d0 A5 n1 c5) rfl rfl (HBK.out) rfl rfl (yD _ _ _ _ _ _) ?_
   intro w8 k1 k2 k3 k4
   have h8 := own_skip (hown5) (HBK.out) (by decide) k2
   have B8 : Below w2.heap.size w2 w8 := (B7).trans (k4.mono ((show w2.heap.size ≤ w2.heap.size by omega)))
   have HST : Hid (SlwSt w bd A0 m d0 ((w2.heap.size)) n1 A5 c5 CS N.arcs w8) := Lib.hid (by
    have hbw : Below w.heap.size w w8 := HBW.out.trans (B8.mono (by omega))
    refine ⟨h8, (HEL.out _ (fun b hb => ⟨fun e => ?_, .inl hb⟩)).below hbw, k1, HY.out.below (HB2.out.trans (B8.mono hz2)), hbw, by have h := (show w2.heap.size ≤ w2.heap.size by omega); omega, own_ne h8 (show Blk w8 _ _ _ from k1) (by decide)⟩
    have h := (World.ownsRow.lt h8 b e.symm).1
    omega)
   refine hK.out _ _ (HSS.out _ B8) (fun hHeld => ?_)
   clear hK K
   (try simp only [lib.hly])
   (refine wpAnyH_done (by kernel_rfl) ?_ _)
   go_wp2
   go_meet
   exact ⟨_, _, _, rfl, HST.out⟩
 obtain ⟨ob, B, d, hv, hst⟩ := hcut
 subst hv
 have HO := Lib.hid hst
 clear hst
 have x1 : wc.cell? ⟨ob, 1, none⟩ = some (.slice B n1 d) := HO.out.obx.cell (j := 1) rfl
 go_upto_region 8 with fail
 clear x1
 go_loopw [13, 50] (fun fv i wr => ∃ (k : Nat) (rk : List Arc) (b : Bool) (CK : List Value), k ≤ n1 ∧ i = .int .i64 k ∧ fv = .bool b ∧ Hid (slwTo N.arcs f t at_ n k = .ok (rk, b) ∧ rk.length = k) ∧ Hid (SlwSt w bd A0 m d0 ob n1 B d CK (rk ++ N.arcs.drop k) wr)) (fun _ i _ => n1 - (intOf i).toNat)
 case atStart => exact ⟨0, [], false, CS, by omega, rfl, rfl, Lib.hid ⟨rfl, rfl⟩, HO⟩
 case round =>
  clear HO
  obtain ⟨k, rk, b, CK, hk, rfl, rfl, HK, HO⟩ := hrel
  have hsz := HO.out.size
  by_cases hlt : k < n1
  ·obtain ⟨x, hx⟩ : ∃ x, N.arcs[k]? = some x := ⟨_, List.getElem?_eq_getElem (by rw [HNN.out.2]; exact hlt)⟩
   have hdr : N.arcs.drop k = x :: N.arcs.drop (k + 1) := by
    obtain ⟨hkk, e⟩ := List.getElem?_eq_some_iff.1 hx
    rw [← e]
    exact List.drop_eq_getElem_cons hkk
   have hxk : (rk ++ N.arcs.drop k)[k]? = some x := by rw [List.getElem?_append_right (by rw [HK.out.2]; exact Nat.le_refl _), HK.out.2, Nat.sub_self, hdr]; rfl
   have hll : (rk ++ N.arcs.drop k).length = n1 := by rw [List.length_append, HK.out.2, List.length_drop, HNN.out.2]; omega
   obtain ⟨g, cap, hv, hgb, hglt⟩ := HO.out.own.form (by omega)
   obtain rfl : B = some ⟨g, 0, none⟩ := by injection hv
   obtain ⟨C0, c0, C1, c1, hce, hsl⟩ := HO.out.elem hxk hll
   have HXS := Lib.hid (HSL.out x (List.mem_of_getElem? hx))
   have HDR := Lib.hid (And.intro hdr (And.intro hxk hx))
   have HCE := Lib.hid (And.intro hce hsl)
   have hk0 : (0 : Int) ≤ (k : Int) := by omega
   have hkn : (k : Int) < (n1 : Int) := by omega
   have HLL := Lib.hid hll
   clear hx hdr hxk hll hv hce hsl
   go_upto_region 10 with (first
    | ((with_reducible refine zH stArc' _ rfl ⟨g, k * 6, none⟩ (zB x C0 c0 C1 c1) ?_ ?_ ?_ ?_ ?_); exact rfl; exact rfl; exact HCE.out.1; exact rfl)
    | ((with_reducible refine zJ stArc' rfl _ _ rfl wr.heap.size (arcL 0 0 0 (.slice none 0 0)) (zB x C0 c0 C1 c1) ?_ ?_ ?_ ?_ ?_ (yC _ _ _ _ _) ?_); exact rfl; exact rfl; exact Blk.new wr _ _; exact rfl; exact rfl; intro w4 k1 k2 k3 k4; have K := lib.h4 k1 k2 k3 k4; clear k1 k2 k3 k4))
   (try simp only [lib.hly])
   have b4 : Below wr.heap.size wr w4 := ((Below.refl _ _).alloc (Nat.le_refl _) _).trans K.out.2.2.2
   have HQ : Hid (Blk w4 wr.heap.size 59 (zB x C0 c0 C1 c1)) := Lib.hid K.out.1
   have HO4 := Lib.hid (HO.out.below b4)
   have HS4 : Hid (RowAt rPt w4 w4.heap.size C1 x.slow) := Lib.hid (RowAt.more b4.size (HCE.out.2.below b4))
   obtain ⟨q, hq⟩ : ∃ q, wr.heap.size = q := ⟨_, rfl⟩
   rw [hq] at HQ ⊢
   have q0 := HQ.out.cell (j := 0) rfl
   have q1 := HQ.out.cell (j := 1) rfl
   have q5 := HQ.out.cell (j := 5) rfl
   have HL9 : Hid (∀ y, (rk ++ [y]).length = k + 1) := Lib.hid (fun y => by rw [List.length_append, HK.out.2]; rfl)
   clear K b4 HCE HO hq
   by_cases hw1 : x.frm = f
   rotate_left
   ·have hb1 : (x.frm != f) = true := by simp [hw1]
    have HNX : Hid (slwTo N.arcs f t at_ n (k + 1) = .ok (rk ++ [x], b)) := Lib.hid (by rw [slwTo_succ HDR.out.2.2 HK.out.1, if_neg (by unfold way; simp [hw1])])
    clear hw1
    go_wp2_with fail
    exact ⟨⟨k + 1, rk ++ [x], b, CK, by omega, by go_num, rfl, Lib.hid ⟨HNX.out, HL9.out x⟩, Lib.hid (by rw [List.append_assoc, List.singleton_append, ← HDR.out.1]; exact HO4.out)⟩, by simp [intOf]; omega⟩
   have hb1 : (x.frm != f) = false := by simp [hw1]
   by_cases hw2 : x.to = t
   rotate_left
   ·have hb2 : (x.to != t) = true := by simp [hw2]
    have HNX : Hid (slwTo N.arcs f t at_ n (k + 1) = .ok (rk ++ [x], b)) := Lib.hid (by rw [slwTo_succ HDR.out.2.2 HK.out.1, if_neg (by unfold way; simp [hw2])])
    clear hw1 hw2
    go_wp2_with fail
    exact ⟨⟨k + 1, rk ++ [x], b, CK, by omega, by go_num, rfl, Lib.hid ⟨HNX.out, HL9.out x⟩, Lib.hid (by rw [List.append_assoc, List.singleton_append, ← HDR.out.1]; exact HO4.out)⟩, by simp [intOf]; omega⟩
   have hb2 : (x.to != t) = false := by simp [hw2]
   have HNX : Hid (slwTo N.arcs f t at_ n (k + 1) = (match lateF x.slow at_ n with | .error e => .error e | .ok s => .ok (rk ++ [{ x with slow := s }], true))) := Lib.hid (by rw [slwTo_succ HDR.out.2.2 HK.out.1, if_pos (by unfold way; simp [hw1, hw2])]; cases lateF x.slow at_ n <;> rfl)
   clear hw1 hw2
   go_wp2_with fail
   refine (later_any C1 c1 x.slow at_ n w4 HS4.out (by have := HXS.out.1; omega) HXS.out.2 HNT.out).mono ?_
   obtain ⟨s', hs'⟩ : ∃ s', lateF x.slow at_ n = s' := ⟨_, rfl⟩
   have HLF := Lib.hid hs'
   rw [hs'] at HNX ⊢
   clear hs' q0 q1 q5
   intro e w5 h5
   rcases s' with kk | s
   ·obtain ⟨rfl, b5⟩ := h5
    have hkk : (kk != 0) = true := by rcases late_err HLF.out with rfl | rfl <;> rfl
    have HRR : Hid (r = .error kk) := Lib.hid (by
     have h := slwTo_err HNX.out (n1 - (k + 1))
     rw [show k + 1 + (n1 - (k + 1)) = n1 by omega] at h
     rw [HSF2.out, h])
    have HO5 := Lib.hid (HO4.out.below b5)
    clear b5
    go_wp2_with ((with_reducible refine zJ stNet rfl _ _ rfl (w.heap.size + 1) (netC none 0 0 none 0 0) (netC none 0 0 none 0 0) ?_ ?_ ?_ ?_ ?_ (yD _ _ _ _ _ _) ?_); exact rfl; exact rfl; exact HO5.out.rbx; exact rfl; exact rfl; intro wz k1 k2 k3 k4; have K := lib.h4 k1 k2 k3 k4; clear k1 k2 k3 k4)
    have HRz : Blk wz (w.heap.size + 1) 25 (netC none 0 0 none 0 0) := K.out.1
    refine bodyPost_ret (v := .tuple #[.agg #[.slice none 0 0, .slice none 0 0], .int .i64 kk]) (big.zK stNet Tryz.results104 rfl rfl HRz.cells rfl) rfl ?_
    rw [HRR.out]
    exact ⟨rfl, (HO5.out.bel).trans (K.out.2.2.2.mono (by omega))⟩
   ·obtain ⟨A', c', rfl, hown, b5⟩ := h5
    have HO5 := Lib.hid (HO4.out.below b5)
    have HRS : Hid (yK oPt w5 (fun b => some b ≠ (Value.slice (some ⟨g, 0, none⟩) n1 d).ownBlock ∧ (b < bd ∨ w.heap.size + 2 ≤ b)) A' s) := Lib.hid (by
     obtain ⟨f1, f2⟩ := late_fits HLF.out (fun p hp => ⟨row_fits HS4.out p hp, HXS.out.2 p hp⟩) HAT.out HNT.out
     refine rowOff_pts hown (by have := HXS.out.1; omega) f1 (fun g' hg' _ => ⟨fun e' => ?_, ?_⟩)
     ·have h9 := (World.ownsRow.lt HO4.out.own g rfl).2
      have h8 : g' = g := Option.some.inj e'
      omega
     ·have h9 := HO4.out.size
      have h8 : w4.heap.size ≤ g' := hg'
      exact .inr (by omega))
    have y1 : w5.cell? ⟨ob, 1, none⟩ = some (.slice (some ⟨g, 0, none⟩) n1 d) := HO5.out.obx.cell (j := 1) rfl
    have f5 := HO5.out.own.frozenAt (k * 6 + 5)
    obtain ⟨D0, e0, D1, e1, hce5, _⟩ := HO5.out.elem HDR.out.2.1 HLL.out
    have y5 : w5.cell? ⟨g, k * 6 + 5, none⟩ = some (.slice D1 x.slow.length e1) := hce5 5 _ rfl
    clear hce5
    clear b5 hown
    go_wp2_with fail
    have hset : (rk ++ N.arcs.drop k).set k { x with slow := s } = (rk ++ [{ x with slow := s }]) ++ N.arcs.drop (k + 1) := by
     rw [HDR.out.1, List.set_append_right _ _ (by rw [HK.out.2]; exact Nat.le_refl _), HK.out.2, Nat.sub_self, List.append_assoc]
     rfl
    exact ⟨⟨k + 1, rk ++ [{ x with slow := s }], true, _, by omega, by go_num, rfl, Lib.hid ⟨HNX.out, HL9.out _⟩, Lib.hid (by rw [← hset]; exact HO5.out.mod HDR.out.2.1 HRS.out)⟩, by simp [intOf]; omega⟩
  ·have hkn : k = n1 := by omega
   subst hkn
   clear hlt
   have hdr : N.arcs.drop k = [] := List.drop_of_length_le (by rw [HNN.out.2]; exact Nat.le_refl _)
   rw [hdr, List.append_nil] at HO
   clear hdr
   cases b
   ·have HRR : Hid (r = .error 12) := Lib.hid (by rw [HSF2.out, HK.out.1]; rfl)
    go_wp2_with ((with_reducible refine zJ stNet rfl _ _ rfl (w.heap.size + 1) (netC none 0 0 none 0 0) (netC none 0 0 none 0 0) ?_ ?_ ?_ ?_ ?_ (yD _ _ _ _ _ _) ?_); exact rfl; exact rfl; exact HO.out.rbx; exact rfl; exact rfl; intro wz k1 k2 k3 k4; have K := lib.h4 k1 k2 k3 k4; clear k1 k2 k3 k4)
    have HRz : Blk wz (w.heap.size + 1) 25 (netC none 0 0 none 0 0) := K.out.1
    refine bodyPost_ret (v := .tuple #[.agg #[.slice none 0 0, .slice none 0 0], .int .i64 12]) (big.zK stNet Tryz.results104 rfl rfl HRz.cells rfl) rfl ?_
    rw [HRR.out]
    exact ⟨rfl, (HO.out.bel).trans (K.out.2.2.2.mono (by omega))⟩
   ·have HRR : Hid (r = .ok ⟨N.places, rk⟩) := Lib.hid (by rw [HSF2.out, HK.out.1]; rfl)
    go_wp2_with (first
     | ((with_reducible refine zH stNet _ rfl ⟨ob, 0, none⟩ (netC A0 m d0 B k d) ?_ ?_ ?_ ?_ ?_); exact rfl; exact rfl; exact HO.out.obx.cells; exact rfl)
     | ((with_reducible refine zJ stNet rfl _ _ rfl (w.heap.size + 1) (netC none 0 0 none 0 0) (netC A0 m d0 B k d) ?_ ?_ ?_ ?_ ?_ (yD _ _ _ _ _ _) ?_); exact rfl; exact rfl; exact HO.out.rbx; exact rfl; exact rfl; intro wz k1 k2 k3 k4; have K := lib.h4 k1 k2 k3 k4; clear k1 k2 k3 k4))
    have HRz : Blk wz (w.heap.size + 1) 25 (netC A0 m d0 B k d) := K.out.1
    refine bodyPost_ret (v := .tuple #[.agg #[.slice A0 m d0, .slice B k d], .int .i64 0]) (big.zK stNet Tryz.results104 rfl rfl HRz.cells rfl) rfl ?_
    rw [HRR.out]
    refine ⟨B, d, by rw [HNN.out.1, HK.out.2], ?_, HO.out.bel.trans (K.out.2.2.2.mono (by omega))⟩
    have hown := own_skip HO.out.own HO.out.rbx (by decide) K.out.2.1
    have hgr : wr.heap.size ≤ wz.heap.size := by rw [K.out.2.2.1]; exact Nat.le_refl _
    have hels : EG oArc wz (fun b => b < bd ∨ w.heap.size ≤ b) CK rk := HO.out.els.keep hgr (fun b hb hp => ⟨by rcases hp.2 with h | h <;> omega, K.out.2.1 b (by rcases hp.2 with h | h <;> omega)⟩)
    exact EG.off (by rw [HK.out.2]; exact hown) hels (by rw [HK.out.2]; omega) (fun b _ h => h) (fun b hb => .inr (by have h : w.heap.size + 2 ≤ b := hb; omega))
end Go.Proofs.YtofabhenmplkoaaGreatDoor.evt

/- An instance in a call's own blocks and in old ones: it stays where other blocks turn. -/
namespace Go.Proofs.YtofabhenmplkoaaGreatDoor.ins
open Go.RowKit
open lib rd typ
def InFr (w : World) (B B1 : Nat) (Y : Ins) (Q : InP) : Prop := ∀ w', w.heap.size ≤ w'.heap.size → (∀ b, b < w.heap.size → (b < B ∨ B1 ≤ b) → w'.heap[b]? = w.heap[b]?) → InAt w' w'.heap.size Y Q
section
variable {w w' : World} {B B1 B' B1' : Nat} {Y : Ins} {Q : InP}
theorem InFr.here (h : InFr w B B1 Y Q) : InAt w w.heap.size Y Q := h w (Nat.le_refl _) (fun _ _ _ => rfl)
theorem InFr.weak (h : InFr w B B1 Y Q) (hB : B ≤ B') (h1 : B1' ≤ B1) : InFr w B' B1' Y Q := fun w' hs hk => h w' hs (fun b hb hp => hk b hb (by rcases hp with hp | hp <;> omega))
theorem InFr.keep (h : InFr w B B1 Y Q) (hs : w.heap.size ≤ w'.heap.size) (hk : ∀ b, b < w.heap.size → (b < B ∨ B1 ≤ b) → w'.heap[b]? = w.heap[b]?) : InFr w' B B1 Y Q := fun w'' hs' hk' => h w'' (Nat.le_trans hs hs') (fun b hb hp => (hk' b (Nat.lt_of_lt_of_le hb hs) hp).trans (hk b hb hp))
theorem InFr.below (h : InFr w B B1 Y Q) (hb : Below w.heap.size w w') : InFr w' B B1 Y Q := h.keep hb.size (fun b hl _ => hb.block b hl)
theorem InFr.nil : InFr w B B1 nilI nilP := fun w' _ _ => nil_at w'
theorem InAt.blocks {x : Ins} {P : InP} (h : InAt w B x P) (hk : ∀ b, b < B → w'.heap[b]? = w.heap[b]?) : InAt w' B x P := by
 have hc : ∀ p : Addr, p.block < B → w'.cell? p = w.cell? p := fun p hp => World.cell?_of_block (hk _ hp)
 exact ⟨RowAt.keep hc h.places, RowAt.keep hc h.arcs, RowAt.keep hc h.types, RowAt.keep hc h.orders, RowAt.keep hc h.apart, RowAt.keep hc h.before, h.capT, h.capO, h.capA, h.capB⟩
theorem CellsOf.blocks {X : Type} {r : Rd X} {l : List X} {CS : List Value} (h : CellsOf r w B l CS) (hk : ∀ b, b < B → w'.heap[b]? = w.heap[b]?) : CellsOf r w' B l CS :=
 ⟨h.1, fun i x hi => by obtain ⟨cs, h1, h2⟩ := h.2 i x hi; exact ⟨cs, r.keep (fun p hp => World.cell?_of_block (hk _ hp)) h1, h2⟩⟩
theorem Ints.blocks {A : Option Addr} {l : List Int} (h : Ints w B A l) (hk : ∀ b, b < B → w'.heap[b]? = w.heap[b]?) : Ints w' B A l := by
 refine ⟨⟨h.1.1, fun h0 => ?_⟩, h.2⟩
 obtain ⟨ad, h1, h2, h3⟩ := h.1.2 h0
 exact ⟨ad, h1, h2, fun j u hu => (World.cell?_of_block (by rw [block_of_add]; exact hk _ h2)).trans (h3 j u hu)⟩
end
end Go.Proofs.YtofabhenmplkoaaGreatDoor.ins

/- instance.Add: the rows of what is handed back. -/
namespace Go.Proofs.YtofabhenmplkoaaGreatDoor.ins
open Go.RowKit
open lib rd typ app big flts ord
def AddOutF (x : Ins) (o : Ord) (B : Nat) (w : World) (e : Ending) (w' : World) : Prop := ∃ P, e = .returned (.tuple #[InV (addR x o).1 P, .int .i64 (addR x o).2]) ∧ InFr w' B w.heap.size (addR x o).1 P ∧ Below w.heap.size w w'
set_option maxRecDepth 100000 in
set_option maxHeartbeats 8000000 in
theorem addF_any (x : Ins) (P : InP) (o : Ord) (C : Option Addr) (cc : Nat) (B : Nat) (w : World) (hB : B ≤ w.heap.size) (hA : InAt w B x P) (hCA : Ints w B C o.load) (hf : yL o) (hlim : x.orders.length < 10 → Lim (addI x o)) :
  Calls Tryz.prog 103 #[InV x P, .agg #[.string o.name, .slice C o.load.length cc, .int .i64 o.pick.place, .int .i64 o.pick.opn, .int .i64 o.pick.close, .int .i64 o.pick.service, .int .i64 o.drop.place, .int .i64 o.drop.opn, .int .i64 o.drop.close, .int .i64 o.drop.service, .int .i64 o.skills, .int .i64 o.penalty, .int .i64 o.split, .int .i64 o.last, .int .i64 o.now, .bool o.off]] w (AddOutF x o B w) := by
 have h : InAt w w.heap.size x P := hA.more hB
 have hC : Ints w w.heap.size C o.load := hCA.more hB
 have hlen0 := h.orders.len
 obtain ⟨n, hn⟩ : ∃ n, x.orders.length = n := ⟨_, rfl⟩
 by_cases h10 : 10 ≤ n
 ·have hR : Hid (addR x o = (nilI, 4)) := Lib.hid (addR_full (by omega))
  have h10' : (10 : Int) ≤ (n : Int) := by omega
  simp only [InV]
  rw [hn]
  clear hlim h hC hf h10 hn hA hCA
  go_enter Tryz.func103, Tryz.ntmps103
  go_wp2
  refine bodyPost_ret (v := .tuple #[InV nilI nilP, .int .i64 4]) (by simp [results, Tryz.results103, go_sem, InV, nilI, nilP]) rfl ?_
  unfold AddOutF
  rw [hR.out]
  refine ⟨nilP, rfl, InFr.nil, by repeat (first | assumption | exact Below.refl _ _ | refine Below.drew ?_ | refine Below.alloc ?_ (by first | omega | (simp <;> omega)) _ | refine Below.setCell ?_ (by first | omega | (simp <;> omega)) _)⟩
 have h10' : ¬ (10 : Int) ≤ (n : Int) := by omega
 have h10n := h10
 have hLim := Lib.hid (hlim (by omega))
 obtain ⟨CS, hcs, hca, hcb, hone⟩ := RowAt.cells (r := rOrd) (by decide) hA.orders
 have hcap : n ≤ P.c3 := by have := h.capO; omega
 have HI := Lib.hid h
 have HC := Lib.hid (And.intro hC hf)
 have hW1 : ∃ W0, ((w.alloc (.cells (insCs x P).toArray 30)).alloc (.cells (zA o C cc).toArray 35)).alloc (.cells nilCs.toArray 30) = W0 := ⟨_, rfl⟩
 obtain ⟨W0, hW0⟩ := hW1
 have hB0 : Below w.heap.size w W0 := by rw [← hW0]; exact (((Below.refl _ _).alloc (Nat.le_refl _) _).alloc (by simp) _).alloc (by simp; omega) _
 have z0 := hB0.size
 have hs0 : w.heap.size + 1 + 1 < W0.heap.size := by rw [← hW0]; simp
 have b0 : SixAt W0 w.heap.size (insCs x P) := by
  rw [← hW0]
  unfold SixAt
  rw [Below.heap_alloc _ _ _ (by simp; omega), Below.heap_alloc _ _ _ (by simp)]
  exact World.alloc_heap_new w _
 have b1 : OrBlk W0 (w.heap.size + 1) o C cc := by
  rw [← hW0]
  unfold OrBlk
  rw [Below.heap_alloc _ _ _ (by simp)]
  have h := World.alloc_heap_new (w.alloc (.cells (insCs x P).toArray 30)) (.cells (zA o C cc).toArray 35)
  simpa using h
 have b2 : SixAt W0 (w.heap.size + 1 + 1) nilCs := by
  rw [← hW0]
  have h := World.alloc_heap_new ((w.alloc (.cells (insCs x P).toArray 30)).alloc (.cells (zA o C cc).toArray 35)) (.cells nilCs.toArray 30)
  simpa [SixAt] using h
 have HX : Hid (∀ w', Below W0.heap.size W0 w' → SixAt w' w.heap.size (insCs x P)) := Lib.hid fun w' h => (h.block _ (by omega)).trans b0
 have HOB : Hid (∀ w', Below W0.heap.size W0 w' → OrBlk w' (w.heap.size + 1) o C cc) := Lib.hid fun w' h => (h.block _ (by omega)).trans b1
 have HRS : Hid (∀ w', Below W0.heap.size W0 w' → SixAt w' (w.heap.size + 1 + 1) nilCs) := Lib.hid fun w' h => (h.block _ (by omega)).trans b2
 have HCS : Hid (CS.length = n * 16 ∧ (0 < n → ∃ ad, P.a3 = some ad) ∧ (∀ w', Below W0.heap.size W0 w' → ∀ ad, P.a3 = some ad → CellsAt w' ad CS) ∧ (∀ w', Below W0.heap.size W0 w' → CellsOf rOrd w' w'.heap.size x.orders CS)) := Lib.hid (by
  refine ⟨by rw [hcs.1, hn]; rfl, fun h0 => ?_, fun w' hb ad hA' => ?_, fun w' hb => ?_⟩
  ·obtain ⟨ad, h1, _⟩ := hcb (by omega)
   exact ⟨ad, h1⟩
  ·rcases Nat.eq_zero_or_pos n with h0 | h0
   ·obtain rfl : CS = [] := List.eq_nil_of_length_eq_zero (by rw [hcs.1, hn, h0]; simp)
    intro j u hu
    cases hu
   ·obtain ⟨ad', h1, h2⟩ := hcb (by omega)
    rw [hA'] at h1
    obtain rfl := Option.some.inj h1
    exact (hca ad hA').below (hB0.trans (hb.mono z0)) (Nat.lt_of_lt_of_le h2 hB)
  ·have hb' := hB0.trans (hb.mono z0)
   exact (hcs.keep (hb'.mono hB)).more (Nat.le_trans hB hb'.size))
 have HCA := Lib.hid (And.intro hA hCA)
 have HFINI : Hid (∀ w' A' c', B ≤ w'.heap.size → (∀ b, b < B → w'.heap[b]? = w.heap[b]?) → w'.ownsRow (w.heap.size + 1 + 1 + 1) 35 16 (.slice A' (n + 1) c') (n + 1) (CS ++ zA o C cc) → InAt w' w'.heap.size (addI x o) ⟨P.a0, P.c0, P.a1, P.c1, P.a2, P.c2, A', c', P.a4, P.c4, P.a5, P.c5⟩) := Lib.hid fun w' A' c' hs1 hk1 hown => by
  have hi := (HCA.out.1.blocks hk1).more hs1
  have hle : (x.orders ++ [o]).length = n + 1 := by rw [List.length_append, hn]; rfl
  have hce : CellsOf rOrd w' w'.heap.size (x.orders ++ [o]) (CS ++ zA o C cc) := ((CellsOf.blocks hcs hk1).more hs1).snoc (rOrd_mk ((Ints.blocks HCA.out.2 hk1).more hs1) HC.out.2)
  refine ⟨hi.places, hi.arcs, hi.types, ?_, hi.apart, hi.before, hi.capT, ?_, hi.capA, hi.capB⟩
  ·have h2 := RowAt.of_own (r := rOrd) (l := x.orders ++ [o]) (c := c') hce (by rw [hle]; exact hown) (by rw [hle]; omega)
   exact h2
  ·show (x.orders ++ [o]).length ≤ c'
   rw [hle]
   exact own_len_cap hown
 have HW0 : Hid (((w.alloc (.cells #[.slice P.a0 x.net.places.length P.c0, .slice P.a1 x.net.arcs.length P.c1, .slice P.a2 x.types.length P.c2, .slice P.a3 n P.c3, .slice P.a4 x.apart.length P.c4, .slice P.a5 x.before.length P.c5] 30)).alloc (.cells #[.string o.name, .slice C o.load.length cc, .int .i64 o.pick.place, .int .i64 o.pick.opn, .int .i64 o.pick.close, .int .i64 o.pick.service, .int .i64 o.drop.place, .int .i64 o.drop.opn, .int .i64 o.drop.close, .int .i64 o.drop.service, .int .i64 o.skills, .int .i64 o.penalty, .int .i64 o.split, .int .i64 o.last, .int .i64 o.now, .bool o.off] 35)).alloc (.cells #[.slice none 0 0, .slice none 0 0, .slice none 0 0, .slice none 0 0, .slice none 0 0, .slice none 0 0] 30) = W0) := Lib.hid (by rw [← hn]; exact hW0)
 have B0 : Below W0.heap.size W0 W0 := Below.refl _ _
 have HXC : Hid (∀ w', Below W0.heap.size W0 w' → w'.cell? ⟨w.heap.size, 3, none⟩ = some (.slice P.a3 n P.c3)) := Lib.hid fun w' h => by rw [← hn]; exact (HX.out _ h).cell (j := 3) rfl
 have HNL := Lib.hid hn
 clear hlim h hC hf hA hCA hW0 hcs hca hcb hone b0 b1 b2 h10
 simp only [InV]
 rw [hn]
 clear hn
 go_enter Tryz.func103, Tryz.ntmps103
 go_upto_region 1 with fail
 rw [HW0.out]
 have x3 := HXC.out _ B0
 go_upto_region 3 with fail
 clear x3
 go_cut [] (fun wx => ∃ A' c', SixAt wx w.heap.size (insCs (addI x o) ⟨P.a0, P.c0, P.a1, P.c1, P.a2, P.c2, A', c', P.a4, P.c4, P.a5, P.c5⟩) ∧ SixAt wx (w.heap.size + 1 + 1) nilCs ∧ wx.ownsRow (w.heap.size + 1 + 1 + 1) 35 16 (.slice A' (n + 1) c') (n + 1) (CS ++ zA o C cc) ∧ Below w.heap.size w wx)
 case first => as_aux_lemma =>
  have Bd : Below W0.heap.size W0 W0.drew := B0.drew
  have BL : Below W0.heap.size W0 (W0.drew.alloc (.cells (zA o C cc).toArray 35)) := Bd.alloc (by simp) _
  have HL : Hid (CellsAt (W0.drew.alloc (.cells (zA o C cc).toArray 35)) ⟨w.heap.size + 1, 0, none⟩ (zA o C cc)) := Lib.hid (orBlk_at (HOB.out _ BL))
  have HD : Hid (CellsAt W0.drew ⟨w.heap.size + 1, 0, none⟩ (zA o C cc)) := Lib.hid (orBlk_at (HOB.out _ Bd))
  (refine wp_region_held_drew (S := (fun w' => CellsAt w' ⟨w.heap.size + 1, 0, none⟩ (zA o C cc))) (by kernel_rfl) ?_ (fun hHeld => ?_))
  ·exact HD.out
  (refine lib.tk 0 ?_ rfl (by kernel_rfl) (fun _ _ _ h => h) ?_ (by assumption) ?_; rotate_left; (focus (intro w hSw; (try dsimp only at hSw); go_simp; all_goals with_reducible rfl)); (try simp only [lib.hly]))
  (refine lib.tk 3 _ rfl (by kernel_rfl) (fun _ _ _ h => h) (fun _ hSw => yG stOrd' rfl rfl hSw rfl) (by assumption) ?_; (try simp only [lib.hly]))
  have xd := HXC.out _ Bd
  have xl := HXC.out _ B0
  have hs3 : w.heap.size < W0.heap.size := by omega
  refine wpAnyH_ready (rs := [1, 4]) (by kernel_rfl) (by simp) ?_
  refine AllReadyH.cons rfl (fun K hK => ?_) (AllReadyH.cons rfl (fun K hK => ?_) AllReadyH.nil)
  ·go_simp
   refine hK.out _ _ (HD.out) (fun hHeld => ?_)
   clear hK K
   (try simp only [lib.hly])
   refine wpAnyH_ready (rs := [2, 4]) (by kernel_rfl) (by simp) ?_
   refine AllReadyH.cons rfl (fun K hK => ?_) (AllReadyH.cons rfl (fun K hK => ?_) AllReadyH.nil)
   ·skip
    go_simp
    go_at_call 160
    refine (clip_any P.a3 n P.c3 hcap (by omega) _).mono ?_
    rintro e we ⟨rfl, rfl⟩
    refine hK.out _ _ (HD.out) (fun hHeld => ?_)
    clear hK K
    (try simp only [lib.hly])
    (refine wpAnyH_ready (rs := [4]) (by kernel_rfl) (by simp) ?_; refine AllReadyH.cons rfl (fun K hK => ?_) AllReadyH.nil)
    refine step_lit1 ord_elem rfl _ rfl (zA o C cc) ordZs rfl (by decide) ord_zs (ord_fill1 o C cc) ?_
    refine hK.out _ _ (HL.out) (fun hHeld => ?_)
    clear hK K
    (try simp only [lib.hly])
    (refine wpAnyH_ready (rs := [5]) (by kernel_rfl) (by simp) ?_; refine AllReadyH.cons rfl (fun K hK => ?_) AllReadyH.nil)
    refine step_appClip ord_elem rfl _ _ rfl P.a3 n CS rfl HCS.out.1 HCS.out.2.1 (HCS.out.2.2.1 _ BL) ⟨W0.drew.heap.size, 0, none⟩ 1 (zA o C cc) rfl rfl (ord_new W0.drew o C cc) (zR o C cc) (by omega) ?_
    intro A' c' w5 hown5 hg5
    have BG : Below W0.heap.size W0 w5 := BL.grown hg5 BL.size (fun q e => by cases e)
    refine hK.out _ _ ((orBlk_at (HOB.out _ BG))) (fun hHeld => ?_)
    clear hK K
    (try simp only [lib.hly])
    have x5 := HXC.out _ BG
    have f5 : w5.frozen? ⟨w.heap.size, 3, none⟩ = false := (HX.out _ BG).frozen 3
    have z5 := BG.size
    have HO5 := Lib.hid hown5
    have HG5 := Lib.hid hg5
    clear hown5 hg5
    (refine lib.tk 6 ?_ rfl (by kernel_rfl) (fun _ _ _ h => h) ?_ (by assumption) ?_; rotate_left; (focus (intro w hSw; (try dsimp only at hSw); go_simp; all_goals with_reducible rfl)); (try simp only [lib.hly]))
    (refine wpAnyH_ready (rs := [7]) (by kernel_rfl) (by simp) ?_; refine AllReadyH.cons rfl (fun K hK => ?_) AllReadyH.nil)
    go_simp
    refine hK.out _ _ (cellsAt_set (orBlk_at (HOB.out _ BG)) _ _ (by show w.heap.size + 1 ≠ w.heap.size; omega)) (fun hHeld => ?_)
    clear hK K
    (try simp only [lib.hly])
    (refine wpAnyH_done (by kernel_rfl) ?_ _)
    go_wp2
    go_meet
    refine ⟨A', c', ?_, ?_, ?_, ?_⟩
    ·rw [← insCs_add, HNL.out]
     exact (HX.out _ BG).set 3 _
    ·exact (HRS.out _ BG).keep (Below.heap_setCell _ _ _ _ (by show w.heap.size + 1 + 1 ≠ w.heap.size; omega))
    ·exact ownsRow_setCell_below (a := ⟨w.heap.size, 3, none⟩) (zY HO5.out (by simp; omega)) (by show w.heap.size < _; omega) _
    ·exact (hB0.trans (BG.mono z0)).setCell (p := ⟨w.heap.size, 3, none⟩) (Nat.le_refl _) _
   ·skip
    refine step_lit1 ord_elem rfl _ rfl (zA o C cc) ordZs rfl (by decide) ord_zs (ord_fill1 o C cc) ?_
    refine hK.out _ _ (HL.out) (fun hHeld => ?_)
    clear hK K
    (try simp only [lib.hly])
    (refine wpAnyH_ready (rs := [2]) (by kernel_rfl) (by simp) ?_; refine AllReadyH.cons rfl (fun K hK => ?_) AllReadyH.nil)
    go_simp
    go_at_call 160
    refine (clip_any P.a3 n P.c3 hcap (by omega) _).mono ?_
    rintro e we ⟨rfl, rfl⟩
    refine hK.out _ _ (HL.out) (fun hHeld => ?_)
    clear hK K
    (try simp only [lib.hly])
    (refine wpAnyH_ready (rs := [5]) (by kernel_rfl) (by simp) ?_; refine AllReadyH.cons rfl (fun K hK => ?_) AllReadyH.nil)
    refine step_appClip ord_elem rfl _ _ rfl P.a3 n CS rfl HCS.out.1 HCS.out.2.1 (HCS.out.2.2.1 _ BL) ⟨W0.drew.heap.size, 0, none⟩ 1 (zA o C cc) rfl rfl (ord_new W0.drew o C cc) (zR o C cc) (by omega) ?_
    intro A' c' w5 hown5 hg5
    have BG : Below W0.heap.size W0 w5 := BL.grown hg5 BL.size (fun q e => by cases e)
    refine hK.out _ _ ((orBlk_at (HOB.out _ BG))) (fun hHeld => ?_)
    clear hK K
    (try simp only [lib.hly])
    have x5 := HXC.out _ BG
    have f5 : w5.frozen? ⟨w.heap.size, 3, none⟩ = false := (HX.out _ BG).frozen 3
    have z5 := BG.size
    have HO5 := Lib.hid hown5
    have HG5 := Lib.hid hg5
    clear hown5 hg5
    (refine lib.tk 6 ?_ rfl (by kernel_rfl) (fun _ _ _ h => h) ?_ (by assumption) ?_; rotate_left; (focus (intro w hSw; (try dsimp only at hSw); go_simp; all_goals with_reducible rfl)); (try simp only [lib.hly]))
    (refine wpAnyH_ready (rs := [7]) (by kernel_rfl) (by simp) ?_; refine AllReadyH.cons rfl (fun K hK => ?_) AllReadyH.nil)
    go_simp
    refine hK.out _ _ (cellsAt_set (orBlk_at (HOB.out _ BG)) _ _ (by show w.heap.size + 1 ≠ w.heap.size; omega)) (fun hHeld => ?_)
    clear hK K
    (try simp only [lib.hly])
    (refine wpAnyH_done (by kernel_rfl) ?_ _)
    go_wp2
    go_meet
    refine ⟨A', c', ?_, ?_, ?_, ?_⟩
    ·rw [← insCs_add, HNL.out]
     exact (HX.out _ BG).set 3 _
    ·exact (HRS.out _ BG).keep (Below.heap_setCell _ _ _ _ (by show w.heap.size + 1 + 1 ≠ w.heap.size; omega))
    ·exact ownsRow_setCell_below (a := ⟨w.heap.size, 3, none⟩) (zY HO5.out (by simp; omega)) (by show w.heap.size < _; omega) _
    ·exact (hB0.trans (BG.mono z0)).setCell (p := ⟨w.heap.size, 3, none⟩) (Nat.le_refl _) _
  ·skip
   refine step_lit1 ord_elem rfl _ rfl (zA o C cc) ordZs rfl (by decide) ord_zs (ord_fill1 o C cc) ?_
   refine hK.out _ _ (HL.out) (fun hHeld => ?_)
   clear hK K
   (try simp only [lib.hly])
   (refine wpAnyH_ready (rs := [1]) (by kernel_rfl) (by simp) ?_; refine AllReadyH.cons rfl (fun K hK => ?_) AllReadyH.nil)
   go_simp
   refine hK.out _ _ (HL.out) (fun hHeld => ?_)
   clear hK K
   (try simp only [lib.hly])
   (refine wpAnyH_ready (rs := [2]) (by kernel_rfl) (by simp) ?_; refine AllReadyH.cons rfl (fun K hK => ?_) AllReadyH.nil)
   go_simp
   go_at_call 160
   refine (clip_any P.a3 n P.c3 hcap (by omega) _).mono ?_
   rintro e we ⟨rfl, rfl⟩
   refine hK.out _ _ (HL.out) (fun hHeld => ?_)
   clear hK K
   (try simp only [lib.hly])
   (refine wpAnyH_ready (rs := [5]) (by kernel_rfl) (by simp) ?_; refine AllReadyH.cons rfl (fun K hK => ?_) AllReadyH.nil)
   refine step_appClip ord_elem rfl _ _ rfl P.a3 n CS rfl HCS.out.1 HCS.out.2.1 (HCS.out.2.2.1 _ BL) ⟨W0.drew.heap.size, 0, none⟩ 1 (zA o C cc) rfl rfl (ord_new W0.drew o C cc) (zR o C cc) (by omega) ?_
   intro A' c' w5 hown5 hg5
   have BG : Below W0.heap.size W0 w5 := BL.grown hg5 BL.size (fun q e => by cases e)
   refine hK.out _ _ ((orBlk_at (HOB.out _ BG))) (fun hHeld => ?_)
   clear hK K
   (try simp only [lib.hly])
   have x5 := HXC.out _ BG
   have f5 : w5.frozen? ⟨w.heap.size, 3, none⟩ = false := (HX.out _ BG).frozen 3
   have z5 := BG.size
   have HO5 := Lib.hid hown5
   have HG5 := Lib.hid hg5
   clear hown5 hg5
   (refine lib.tk 6 ?_ rfl (by kernel_rfl) (fun _ _ _ h => h) ?_ (by assumption) ?_; rotate_left; (focus (intro w hSw; (try dsimp only at hSw); go_simp; all_goals with_reducible rfl)); (try simp only [lib.hly]))
   (refine wpAnyH_ready (rs := [7]) (by kernel_rfl) (by simp) ?_; refine AllReadyH.cons rfl (fun K hK => ?_) AllReadyH.nil)
   go_simp
   refine hK.out _ _ (cellsAt_set (orBlk_at (HOB.out _ BG)) _ _ (by show w.heap.size + 1 ≠ w.heap.size; omega)) (fun hHeld => ?_)
   clear hK K
   (try simp only [lib.hly])
   (refine wpAnyH_done (by kernel_rfl) ?_ _)
   go_wp2
   go_meet
   refine ⟨A', c', ?_, ?_, ?_, ?_⟩
   ·rw [← insCs_add, HNL.out]
    exact (HX.out _ BG).set 3 _
   ·exact (HRS.out _ BG).keep (Below.heap_setCell _ _ _ _ (by show w.heap.size + 1 + 1 ≠ w.heap.size; omega))
   ·exact ownsRow_setCell_below (a := ⟨w.heap.size, 3, none⟩) (zY HO5.out (by simp; omega)) (by show w.heap.size < _; omega) _
   ·exact (hB0.trans (BG.mono z0)).setCell (p := ⟨w.heap.size, 3, none⟩) (Nat.le_refl _) _
 obtain ⟨A', c', hx1, hr1, hown1, hB1⟩ := hcut
 have z1 := hB1.size
 have HX1 := Lib.hid hx1
 have HR1 := Lib.hid hr1
 have HO1 := Lib.hid hown1
 clear hx1 hr1 hown1 HX HOB HRS HCS HW0 HXC
 obtain ⟨Q, hQ⟩ : ∃ Q, (⟨P.a0, P.c0, P.a1, P.c1, P.a2, P.c2, A', c', P.a4, P.c4, P.a5, P.c5⟩ : InP) = Q := ⟨_, rfl⟩
 have HFJ : Hid (∀ w', B ≤ w'.heap.size → (∀ b, b < B → w'.heap[b]? = w.heap[b]?) → w'.ownsRow (w.heap.size + 1 + 1 + 1) 35 16 (.slice A' (n + 1) c') (n + 1) (CS ++ zA o C cc) → InAt w' w'.heap.size (addI x o) Q) := Lib.hid fun w' h1 h2 h3 => by rw [← hQ]; exact HFINI.out w' A' c' h1 h2 h3
 have HFI : Hid (∀ w', Below w.heap.size w w' → w'.ownsRow (w.heap.size + 1 + 1 + 1) 35 16 (.slice A' (n + 1) c') (n + 1) (CS ++ zA o C cc) → InAt w' w'.heap.size (addI x o) Q) := Lib.hid fun w' h1 h2 => HFJ.out w' (Nat.le_trans hB h1.size) (fun b hb => h1.block b (by omega)) h2
 rw [hQ] at HX1
 clear hQ HFINI
 go_wp2_with ((with_reducible refine zH stIns _ rfl ⟨w.heap.size, 0, none⟩ (insCs (addI x o) Q) ?_ ?_ ?_ ?_ ?_); exact rfl; exact rfl; exact HX1.out.cells; exact rfl)
 refine (icheck_any (addI x o) Q _ (HFI.out _ hB1 HO1.out) hLim.out).mono ?_
 rintro e w2 ⟨Af, cf, rfl, hownF, b2⟩
 have z2 := b2.size
 have HX2 : Hid (SixAt w2 w.heap.size (insCs (addI x o) Q)) := Lib.hid (HX1.out.below b2)
 have HR2 : Hid (SixAt w2 (w.heap.size + 1 + 1) nilCs) := Lib.hid (HR1.out.below b2)
 have HO2 := Lib.hid (own_below HO1.out b2)
 have hB2 : Below w.heap.size w w2 := hB1.trans (b2.mono z1)
 cases hF : insF (addI x o)
 case nil =>
  have hR : Hid (addR x o = (addI x o, 0)) := Lib.hid (addR_good (by rw [HNL.out]; exact h10n) hF)
  clear hF hownF
  go_wp2_with (first
   | ((with_reducible refine zH stIns _ rfl ⟨w.heap.size, 0, none⟩ (insCs (addI x o) Q) ?_ ?_ ?_ ?_ ?_); exact rfl; exact rfl; exact HX2.out.cells; exact rfl)
   | ((with_reducible refine zJ stIns rfl _ _ rfl (w.heap.size + 1 + 1) nilCs (insCs (addI x o) Q) ?_ ?_ ?_ ?_ ?_ (zT _ _) ?_); exact rfl; exact rfl; exact HR2.out; exact rfl; exact rfl; intro w3 k1 k2 k3 k4; have K := lib.h4 k1 k2 k3 k4; clear k1 k2 k3 k4))
  obtain ⟨k1, k2, k3, k4⟩ := K.out
  have k1' : SixAt w3 (w.heap.size + 1 + 1) (insCs (addI x o) Q) := k1
  have hB3 : Below w.heap.size w w3 := hB2.trans (k4.mono (by omega))
  have ho3 := own_other HO2.out k2 (by omega)
  have hi3 : InFr w3 B w.heap.size (addI x o) Q := fun w4 hs4 hk4 => by
   have hs3 := hB3.size
   refine HFJ.out w4 (by omega) (fun b hb => (hk4 b (by omega) (.inl hb)).trans (hB3.block b (by omega))) (gen.own_fr ho3 ⟨hs4, fun b hb hp => hk4 b hb (.inr ?_)⟩)
   have h9 : w.heap.size + 1 + 1 + 1 ≤ b := hp
   omega
  have r0 : w3.cell? ⟨w.heap.size + 1 + 1, 0, none⟩ = some (.slice Q.a0 (addI x o).net.places.length Q.c0) := k1'.cell (j := 0) rfl
  have r1 : w3.cell? ⟨w.heap.size + 1 + 1, 1, none⟩ = some (.slice Q.a1 (addI x o).net.arcs.length Q.c1) := k1'.cell (j := 1) rfl
  have r2 : w3.cell? ⟨w.heap.size + 1 + 1, 2, none⟩ = some (.slice Q.a2 (addI x o).types.length Q.c2) := k1'.cell (j := 2) rfl
  have r3 : w3.cell? ⟨w.heap.size + 1 + 1, 3, none⟩ = some (.slice Q.a3 (addI x o).orders.length Q.c3) := k1'.cell (j := 3) rfl
  have r4 : w3.cell? ⟨w.heap.size + 1 + 1, 4, none⟩ = some (.slice Q.a4 (addI x o).apart.length Q.c4) := k1'.cell (j := 4) rfl
  have r5 : w3.cell? ⟨w.heap.size + 1 + 1, 5, none⟩ = some (.slice Q.a5 (addI x o).before.length Q.c5) := k1'.cell (j := 5) rfl
  refine bodyPost_ret (v := .tuple #[InV (addI x o) Q, .int .i64 0]) (by simp [results, Tryz.results103, go_sem, InV, r0, r1, r2, r3, r4, r5]) rfl ?_
  unfold AddOutF
  rw [hR.out]
  exact ⟨Q, rfl, hi3, hB3⟩
 case cons f fs =>
  have hR : Hid (addR x o = (nilI, f.err)) := Lib.hid (addR_bad (by rw [HNL.out]; exact h10n) hF)
  rw [hF] at hownF
  have HFI2 := Lib.hid hownF
  obtain ⟨g, hg1, hg2, hg3⟩ := net.flt_place hownF
  obtain ⟨hgA, hgs⟩ := hg2 (by simp)
  obtain ⟨g0, -⟩ := hg3 0 f rfl
  subst hgA
  have gl : (0 : Int) < (fs.length : Int) + 1 := by omega
  have q0 : w2.cell? ⟨g, 0, none⟩ = some (.int .i64 f.err) := by simpa using g0
  have hk2 : w.heap.size + 1 + 1 < wc.heap.size := (Array.getElem?_eq_some_iff.1 HR1.out).1
  have hgne : g ≠ w.heap.size + 1 + 1 := by have := hg1; omega
  clear hF hownF hg2 hg3 g0
  go_upto_region 6 with fail
  (refine wp_region_held_drew (S := (fun w' => w'.cell? ⟨g, 0, none⟩ = some (.int .i64 f.err))) (by kernel_rfl) ?_ (fun hHeld => ?_))
  ·exact q0
  (refine lib.tk 0 ?_ rfl (by kernel_rfl) (fun _ _ _ h => h) ?_ (by assumption) ?_; rotate_left; (focus (intro w hSw; (try dsimp only at hSw); go_simp; all_goals with_reducible rfl)); (try simp only [lib.hly]))
  (refine lib.tk 1 ?_ rfl (by kernel_rfl) (fun _ _ _ h => h) ?_ (by assumption) ?_; rotate_left; (focus (intro w hSw; (try dsimp only at hSw); go_simp; all_goals with_reducible rfl)); (try simp only [lib.hly]))
  (refine lib.tk 2 ?_ rfl (by kernel_rfl) (fun _ _ _ h => h) ?_ (by assumption) ?_; rotate_left; (focus (intro w hSw; (try dsimp only at hSw); go_simp; all_goals with_reducible rfl)); (try simp only [lib.hly]))
  (refine lib.tk 3 ?_ rfl (by kernel_rfl) (fun _ _ _ h => h) ?_ (by assumption) ?_; rotate_left; (focus (intro w hSw; (try dsimp only at hSw); go_simp; all_goals with_reducible rfl)); (try simp only [lib.hly]))
  (refine lib.tk 4 ?_ rfl (by kernel_rfl) (fun _ _ _ h => h) ?_ (by assumption) ?_; rotate_left; (focus (intro w hSw; (try dsimp only at hSw); go_simp; all_goals with_reducible rfl)); (try simp only [lib.hly]))
  (refine wpAnyH_ready (rs := [5]) (by kernel_rfl) (by simp) ?_; refine AllReadyH.cons rfl (fun K hK => ?_) AllReadyH.nil)
  refine yE stIns rfl _ _ rfl (w.heap.size + 1 + 1) nilCs nilCs rfl rfl HR2.out rfl rfl nilCs_one ?_
  intro w3 k1 k2 k3 k4
  have q3 : w3.cell? ⟨g, 0, none⟩ = some (.int .i64 f.err) := mrk_cell (k2 g hgne) q0
  refine hK.out _ _ (q3) (fun hHeld => ?_)
  clear hK K
  (try simp only [lib.hly])
  (refine lib.tk 6 ?_ rfl (by kernel_rfl) (fun _ _ _ h => h) ?_ (by assumption) ?_; rotate_left; (focus (intro w hSw; (try dsimp only at hSw); go_simp; all_goals with_reducible rfl)); (try simp only [lib.hly]))
  (refine wpAnyH_done (by kernel_rfl) ?_ _)
  have hB3 : Below w.heap.size w w3 := hB2.trans (((Below.refl _ _).drew.trans k4).mono (by omega))
  have k1' : SixAt w3 (w.heap.size + 1 + 1) nilCs := k1
  have r0 : w3.cell? ⟨w.heap.size + 1 + 1, 0, none⟩ = some (.slice none 0 0) := k1'.cell (j := 0) rfl
  have r1 : w3.cell? ⟨w.heap.size + 1 + 1, 1, none⟩ = some (.slice none 0 0) := k1'.cell (j := 1) rfl
  have r2 : w3.cell? ⟨w.heap.size + 1 + 1, 2, none⟩ = some (.slice none 0 0) := k1'.cell (j := 2) rfl
  have r3 : w3.cell? ⟨w.heap.size + 1 + 1, 3, none⟩ = some (.slice none 0 0) := k1'.cell (j := 3) rfl
  have r4 : w3.cell? ⟨w.heap.size + 1 + 1, 4, none⟩ = some (.slice none 0 0) := k1'.cell (j := 4) rfl
  have r5 : w3.cell? ⟨w.heap.size + 1 + 1, 5, none⟩ = some (.slice none 0 0) := k1'.cell (j := 5) rfl
  go_wp2
  refine bodyPost_ret (v := .tuple #[InV nilI nilP, .int .i64 f.err]) (by simp [results, Tryz.results103, go_sem, InV, nilI, nilP, r0, r1, r2, r3, r4, r5]) rfl ?_
  unfold AddOutF
  rw [hR.out]
  exact ⟨nilP, rfl, InFr.nil, hB3⟩
end Go.Proofs.YtofabhenmplkoaaGreatDoor.ins
