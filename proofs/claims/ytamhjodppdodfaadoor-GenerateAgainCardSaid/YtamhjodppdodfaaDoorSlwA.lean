/- The delays of an arc with one more. The program. -/
import Derived.Test.YtamhjodppdodfaaDoorEvtP
import Derived.Test.YtamhjodppdodfaaDoorClnO
import Derived.Test.YtamhjodppdodfaaDoorGenE
namespace Go.Proofs.YtamhjodppdodfaaDoor.evt
open Go.RowKit
open Go.Proofs.YtamhjodppdodfaaDoor.lib Go.Proofs.YtamhjodppdodfaaDoor.rd Go.Proofs.YtamhjodppdodfaaDoor.app Go.Proofs.YtamhjodppdodfaaDoor.els Go.Proofs.YtamhjodppdodfaaDoor.off Go.Proofs.YtamhjodppdodfaaDoor.typ Go.Proofs.YtamhjodppdodfaaDoor.big Go.Proofs.YtamhjodppdodfaaDoor.ins Go.Proofs.YtamhjodppdodfaaDoor.ord Go.Proofs.YtamhjodppdodfaaDoor.gen
set_option linter.unusedVariables false
set_option linter.unusedSimpArgs false

/-- What a list of delays answers. -/
def LateOut (w : World) (r : Except Int (List Pt)) (e : Ending) (w' : World) : Prop := match r with
  | .error k => e = .returned (.tuple #[.slice none 0 0, .int .i64 k]) ∧ Below w.heap.size w w'
  | .ok s => ∃ A c, e = .returned (.tuple #[.slice A s.length c, .int .i64 0]) ∧ w'.ownsRow w.heap.size 80 2 (.slice A s.length c) s.length (pcs s) ∧ Below w.heap.size w w'
theorem pcs_len (l : List Pt) : (pcs l).length = l.length * 2 := by
  unfold pcs
  induction l with
  | nil => rfl
  | cons a l ih => rw [List.flatMap_cons, List.length_append, ih, List.length_cons]; show 2 + _ = _; omega
theorem pcs_one (l : List Pt) : ∀ u ∈ pcs l, u.oneCell' = true := fun u hu => by
  unfold pcs at hu
  rw [List.mem_flatMap] at hu
  obtain ⟨p, _, hp⟩ := hu
  simp only [PtCells, List.mem_cons, List.not_mem_nil, or_false] at hp
  rcases hp with rfl | rfl <;> rfl
/-- A row of points that is read: its cells. -/
theorem reads_pts {w : World} {B : Nat} {A : Option Addr} {l : List Pt} (h : RowAt rPt w B A l) : Reads w B 2 A l.length (pcs l) := by
  refine ⟨pcs_len l, fun h0 => ?_⟩
  obtain ⟨CS, hcs, hca, hcb, _⟩ := RowAt.cells (r := rPt) (by decide) h
  obtain ⟨ad, h1, h2⟩ := hcb h0
  refine ⟨ad, h1, h2, ?_⟩
  have e : CS = pcs l := by
    apply List.ext_getElem?
    intro n
    rcases Nat.lt_or_ge n (l.length * 2) with hn | hn
    · obtain ⟨p, hp⟩ : ∃ p, l[n / 2]? = some p := ⟨_, List.getElem?_eq_getElem (by omega)⟩
      obtain ⟨c, h3, h4⟩ := hcs.2 (n / 2) p hp
      obtain ⟨rfl, _⟩ := rPt_at h3
      have h5 := pcs_at hp (n % 2) (Nat.mod_lt _ (by decide))
      have hd : n / 2 * 2 + n % 2 = n := by omega
      rw [hd] at h5
      rw [h5, List.getElem?_eq_getElem (show n % 2 < (PtCells p).length from Nat.mod_lt _ (by decide))]
      have h6 := h4 (n % 2) _ (List.getElem?_eq_getElem (show n % 2 < (PtCells p).length from Nat.mod_lt _ (by decide)))
      rw [show rPt.size = 2 from rfl, hd] at h6
      exact h6
    · rw [List.getElem?_eq_none (by rw [hcs.1]; exact hn), List.getElem?_eq_none (by rw [pcs_len]; exact hn)]
  rw [← e]
  exact hca ad h1
theorem pcs_set (l : List Pt) (p : Pt) (v : Int) : (pcs (l ++ [p])).set (l.length * 2 + 1) (.int .i64 v) = pcs (l ++ [⟨p.t, v⟩]) := by
  rw [pcs_append, pcs_append, List.set_append_right _ _ (by rw [pcs_len]; omega), pcs_len, show l.length * 2 + 1 - l.length * 2 = 1 by omega]
  rfl
theorem late_snoc (l : List Pt) (p : Pt) (t n : Int) : lateF (l ++ [p]) t n = if t < p.t then .error 2 else if t = p.t then (if 4096 < p.a + n then .error 2 else .ok (l ++ [⟨p.t, p.a + n⟩])) else if 16 ≤ l.length + 1 then .error 4 else .ok (l ++ [p] ++ [⟨t, n⟩]) := by
  have h1 : (l ++ [p]).getLast? = some p := by simp
  have h2 : (l ++ [p]).dropLast = l := by simp
  unfold lateF
  rw [h1, h2, List.length_append]
  rfl
set_option maxRecDepth 20000 in
set_option maxHeartbeats 4000000 in
theorem later_any (A : Option Addr) (c : Nat) (l : List Pt) (t n : Int) (w : World) (h : RowAt rPt w w.heap.size A l) (hl : l.length ≤ 1000000) (hb : ∀ p ∈ l, -1000000 ≤ p.a ∧ p.a ≤ 1000000) (hn : 0 ≤ n ∧ n ≤ 4096) :
    Calls Tryd.prog 44 #[.slice A l.length c, .int .i64 t, .int .i64 n] w (LateOut w (lateF l t n)) := by
  have B0 : Below w.heap.size w (w.alloc (.cells #[] 80)) := (Below.refl _ _).alloc (Nat.le_refl _) _
  have HE0 : Hid ((w.alloc (.cells #[] 80)).ownsRow w.heap.size 80 2 (.slice (some ⟨w.heap.size, 0, none⟩) 0 0) 0 []) := Lib.hid (World.ownsRow_made w #[] 0 (Nat.le_refl _) (by decide) rfl)
  have HBA : Hid (w.heap.size ≤ (w.alloc (.cells #[] 80)).heap.size) := Lib.hid B0.size
  have HB := Lib.hid B0
  have HC : Hid (Reads (w.alloc (.cells #[] 80)) w.heap.size 2 A l.length (pcs l)) := Lib.hid ((reads_pts h).below B0)
  have HONE := Lib.hid (pcs_one l)
  obtain ⟨hn0, hn9⟩ := hn
  clear h B0
  rcases List.eq_nil_or_concat l with rfl | ⟨l', p, rfl⟩
  · have HR : Hid (lateF [] t n = .ok [⟨t, n⟩]) := Lib.hid rfl
    obtain ⟨r, hr⟩ : ∃ r, lateF [] t n = r := ⟨_, rfl⟩
    rw [hr] at HR ⊢
    clear hr
    show Calls Tryd.prog 44 #[.slice A 0 c, .int .i64 t, .int .i64 n] w _
    go_enter Tryd.func44, Tryd.ntmps44
    go_upto_region 2 with (at_builtin; go_loud (refine wpList_appN pt_elem _ _ rfl w.heap.size (.slice (some ⟨w.heap.size, 0, none⟩) 0 0) 0 [] rfl HE0.out w.heap.size A 0 c [] rfl HC.out HONE.out (by omega) HBA.out rfl ?_); intro A5 c5 w5 hown5 hg5; rw [Nat.zero_add, List.nil_append] at hown5; have HK := Lib.hid (And.intro hown5 (HB.out.grown hg5 HBA.out (fun q e => own_base HE0.out q e))); clear hown5 hg5)
    have HKa : Hid ((w5.alloc (.cells #[.int .i64 t, .int .i64 n] 80)).ownsRow w.heap.size 80 2 (.slice A5 0 c5) 0 [] ∧ Below w.heap.size w (w5.alloc (.cells #[.int .i64 t, .int .i64 n] 80))) := Lib.hid ⟨own_below HK.out.1 ((Below.refl _ _).alloc (Nat.le_refl _) _), HK.out.2.alloc HK.out.2.size _⟩
    go_wp2_with (at_builtin; go_loud (refine wpList_app pt_elem _ _ rfl w.heap.size A5 0 c5 _ rfl HKa.out.1 ⟨w5.heap.size, 0, none⟩ 1 [.int .i64 t, .int .i64 n] rfl rfl (two_new w5 (.int .i64 t) (.int .i64 n) _) (fun u hu => by simp only [List.mem_cons, List.not_mem_nil, or_false] at hu; rcases hu with rfl | rfl <;> rfl) (by omega) HKa.out.2.size rfl ?_); intro g7 c7 w7 hown7 hg7 hx7; have H7 := Lib.hid (And.intro hown7 (HKa.out.2.grown hg7 HKa.out.2.size (fun q e => own_base HKa.out.1 q e))); clear hown7 hg7 hx7)
    (refine bodyPost_ret (v := .tuple #[(.slice (some ⟨g7, 0, none⟩) 1 c7), .int .i64 0]) (by simp [results, Tryd.results44, go_sem]) rfl ?_)
    rw [HR.out]
    exact ⟨_, _, rfl, H7.out.1, H7.out.2⟩
  · rw [List.concat_eq_append] at hl hb HC HONE ⊢
    have hp := hb p (by simp)
    obtain ⟨k, hk⟩ : ∃ k, l'.length = k := ⟨_, rfl⟩
    have hlen : (l' ++ [p]).length = k + 1 := by rw [List.length_append, hk]; rfl
    rw [hlen] at hl HC ⊢
    have HL := Lib.hid (And.intro hk hlen)
    have HR := Lib.hid (late_snoc l' p t n)
    rw [hk] at HR
    obtain ⟨r, hr⟩ : ∃ r, lateF (l' ++ [p]) t n = r := ⟨_, rfl⟩
    rw [hr] at HR ⊢
    clear hk hlen hb hr
    go_enter Tryd.func44, Tryd.ntmps44
    go_upto_region 3 with (at_builtin; go_loud (refine wpList_appN pt_elem _ _ rfl w.heap.size (.slice (some ⟨w.heap.size, 0, none⟩) 0 0) 0 [] rfl HE0.out w.heap.size A (k + 1) c (pcs (l' ++ [p])) rfl HC.out HONE.out (by omega) HBA.out rfl ?_); intro A5 c5 w5 hown5 hg5; rw [Nat.zero_add, List.nil_append] at hown5; have HK := Lib.hid (And.intro hown5 (HB.out.grown hg5 HBA.out (fun q e => own_base HE0.out q e))); clear hown5 hg5)
    obtain ⟨g, cap, hv, hgb, hglt⟩ := HK.out.1.form (Nat.succ_pos k)
    obtain rfl : A5 = some ⟨g, 0, none⟩ := by injection hv
    have hp9 : (l' ++ [p])[k]? = some p := by rw [← HL.out.1]; simp
    have hxl : (pcs (l' ++ [p])).length = (k + 1) * 2 := by rw [pcs_len, HL.out.2]
    have e0 : w5.cell? ⟨g, k * 2, none⟩ = some (.int .i64 p.t) := by
      have h := HK.out.1.cellAt (k * 2) (by omega)
      have h1 := pcs_at hp9 0 (by decide)
      rw [Nat.add_zero] at h1
      rw [h, h1]
      rfl
    have e1 : w5.cell? ⟨g, k * 2 + 1, none⟩ = some (.int .i64 p.a) := by
      have h := HK.out.1.cellAt (k * 2 + 1) (by omega)
      rw [h, pcs_at hp9 1 (by decide)]
      rfl
    have f1 : w5.frozen? ⟨g, k * 2 + 1, none⟩ = false := HK.out.1.frozenAt _
    obtain ⟨hp1, hp2⟩ := hp
    clear hv hp9 hxl
    by_cases h1 : t < p.t
    · have HRR : Hid (r = .error 2) := Lib.hid (by rw [HR.out, if_pos h1])
      clear HR
      go_wp2_with fail
      (refine bodyPost_ret (v := .tuple #[(.slice none 0 0), .int .i64 2]) (by simp [results, Tryd.results44, go_sem]) rfl ?_)
      rw [HRR.out]
      exact ⟨rfl, HK.out.2⟩
    by_cases h2 : t = p.t
    · subst h2
      have HR2 : Hid (r = if 4096 < p.a + n then .error 2 else .ok (l' ++ [⟨p.t, p.a + n⟩])) := Lib.hid (by rw [HR.out, if_neg h1, if_pos rfl])
      clear HR
      by_cases h3 : 4096 < p.a + n
      · have HRR : Hid (r = .error 2) := Lib.hid (by rw [HR2.out, if_pos h3])
        clear HR2
        go_wp2_with fail
        (refine bodyPost_ret (v := .tuple #[(.slice none 0 0), .int .i64 2]) (by simp [results, Tryd.results44, go_sem]) rfl ?_)
        rw [HRR.out]
        exact ⟨rfl, HK.out.2.setCell (p := ⟨g, k * 2 + 1, none⟩) hgb _⟩
      · have HRR : Hid (r = .ok (l' ++ [⟨p.t, p.a + n⟩])) := Lib.hid (by rw [HR2.out, if_neg h3])
        clear HR2
        go_wp2_with fail
        (refine bodyPost_ret (v := .tuple #[(.slice (some ⟨g, 0, none⟩) (k + 1) c5), .int .i64 0]) (by simp [results, Tryd.results44, go_sem]) rfl ?_)
        rw [HRR.out]
        have hll : (l' ++ [(⟨p.t, p.a + n⟩ : Pt)]).length = k + 1 := by rw [List.length_append, HL.out.1]; rfl
        have hst := (HK.out.1.stored (k * 2 + 1) (.int .i64 (p.a + n))).1
        rw [← HL.out.1, pcs_set, HL.out.1] at hst
        refine ⟨some ⟨g, 0, none⟩, c5, by rw [hll], ?_, HK.out.2.setCell (p := ⟨g, k * 2 + 1, none⟩) hgb _⟩
        rw [hll]
        exact hst
    · have HR2 : Hid (r = if 16 ≤ k + 1 then .error 4 else .ok (l' ++ [p] ++ [⟨t, n⟩])) := Lib.hid (by rw [HR.out, if_neg h1, if_neg h2])
      clear HR
      by_cases h3 : 16 ≤ k + 1
      · have HRR : Hid (r = .error 4) := Lib.hid (by rw [HR2.out, if_pos h3])
        have h3' : (16 : Int) ≤ (k : Int) + 1 := by omega
        clear HR2 h3
        go_wp2_with fail
        (refine bodyPost_ret (v := .tuple #[(.slice none 0 0), .int .i64 4]) (by simp [results, Tryd.results44, go_sem]) rfl ?_)
        rw [HRR.out]
        exact ⟨rfl, HK.out.2⟩
      · have HRR : Hid (r = .ok (l' ++ [p] ++ [⟨t, n⟩])) := Lib.hid (by rw [HR2.out, if_neg h3])
        have h3' : ¬ (16 : Int) ≤ (k : Int) + 1 := by omega
        have HKa : Hid ((w5.alloc (.cells #[.int .i64 t, .int .i64 n] 80)).ownsRow w.heap.size 80 2 (.slice (some ⟨g, 0, none⟩) (k + 1) c5) (k + 1) (pcs (l' ++ [p])) ∧ Below w.heap.size w (w5.alloc (.cells #[.int .i64 t, .int .i64 n] 80))) := Lib.hid ⟨own_below HK.out.1 ((Below.refl _ _).alloc (Nat.le_refl _) _), HK.out.2.alloc HK.out.2.size _⟩
        clear HR2 h3
        go_wp2_with (at_builtin; go_loud (refine wpList_app pt_elem _ _ rfl w.heap.size (some ⟨g, 0, none⟩) (k + 1) c5 _ rfl HKa.out.1 ⟨w5.heap.size, 0, none⟩ 1 [.int .i64 t, .int .i64 n] rfl rfl (two_new w5 (.int .i64 t) (.int .i64 n) _) (fun u hu => by simp only [List.mem_cons, List.not_mem_nil, or_false] at hu; rcases hu with rfl | rfl <;> rfl) (by omega) HKa.out.2.size rfl ?_); intro g7 c7 w7 hown7 hg7 hx7; have H7 := Lib.hid (And.intro hown7 (HKa.out.2.grown hg7 HKa.out.2.size (fun q e => own_base HKa.out.1 q e))); clear hown7 hg7 hx7)
        (refine bodyPost_ret (v := .tuple #[(.slice (some ⟨g7, 0, none⟩) (k + 1 + 1) c7), .int .i64 0]) (by simp [results, Tryd.results44, go_sem]) rfl ?_)
        rw [HRR.out]
        have hll : (l' ++ [p] ++ [(⟨t, n⟩ : Pt)]).length = k + 1 + 1 := by rw [List.length_append, HL.out.2]; rfl
        refine ⟨_, _, by rw [hll], ?_, H7.out.2⟩
        rw [hll, pcs_append]
        exact H7.out.1
end Go.Proofs.YtamhjodppdodfaaDoor.evt
