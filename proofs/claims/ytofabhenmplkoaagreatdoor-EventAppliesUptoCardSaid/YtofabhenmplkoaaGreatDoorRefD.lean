import Derived.Test.YtofabhenmplkoaaGreatDoorSlwX
import Derived.Test.YtofabhenmplkoaaGreatDoorR09B
set_option linter.unusedVariables false
set_option linter.unusedSimpArgs false
/- The delays of an arc with one more, and networks that are slower. The reference. -/
namespace Go.Proofs.YtofabhenmplkoaaGreatDoor.evt
open Go.RowKit
open lib rd app els off typ big ins ord gen
open win (tickB)
set_option maxRecDepth 20000 in
set_option maxHeartbeats 4000000 in
theorem delayed_any (A : Option Addr) (c : Nat) (l : List Pt) (t n : Int) (w : World) (h : RowAt rPt w w.heap.size A l) (hl : l.length ≤ 1000000) (hb : ∀ p ∈ l, -1000000 ≤ p.a ∧ p.a ≤ 1000000) (hn : 0 ≤ n ∧ n ≤ 4096) :
  Calls Tryz.prog 110 #[.slice A l.length c, .int .i64 t, .int .i64 n] w (LateOut w (lateF l t n)) := by
 have HC : Hid (Reads w w.heap.size 2 A l.length (pcs l)) := Lib.hid (reads_pts h)
 have HONE := Lib.hid (pcs_one l)
 obtain ⟨hn0, hn9⟩ := hn
 clear h
 rcases List.eq_nil_or_concat l with rfl | ⟨l', p, rfl⟩
 ·have HR : Hid (lateF [] t n = .ok [⟨t, n⟩]) := Lib.hid rfl
  obtain ⟨r, hr⟩ : ∃ r, lateF [] t n = r := ⟨_, rfl⟩
  rw [hr] at HR ⊢
  clear hr
  show Calls Tryz.prog 110 #[.slice A 0 c, .int .i64 t, .int .i64 n] w _
  go_enter Tryz.func110, Tryz.ntmps110
  go_upto_region 3 with (at_builtin; go_loud (refine zX pt_elem _ _ rfl w.heap.size (.slice none 0 0) 0 [] rfl (World.ownsRow_nil _ _ _ _) w.heap.size A 0 c [] rfl HC.out HONE.out (by omega) (Nat.le_refl _) rfl ?_); intro A5 c5 w5 hown5 hg5; rw [Nat.zero_add, List.nil_append] at hown5; have HK := Lib.hid (And.intro hown5 ((Below.refl w.heap.size w).grown hg5 (Nat.le_refl _) (fun q e => by cases e))); clear hown5 hg5)
  have HKa : Hid ((w5.alloc (.cells #[.int .i64 t, .int .i64 n] 140)).ownsRow w.heap.size 140 2 (.slice A5 0 c5) 0 [] ∧ Below w.heap.size w (w5.alloc (.cells #[.int .i64 t, .int .i64 n] 140))) := Lib.hid ⟨own_below HK.out.1 ((Below.refl _ _).alloc (Nat.le_refl _) _), HK.out.2.alloc HK.out.2.size _⟩
  go_wp2_with (at_builtin; go_loud (refine zN pt_elem _ _ rfl w.heap.size A5 0 c5 _ rfl HKa.out.1 ⟨w5.heap.size, 0, none⟩ 1 [.int .i64 t, .int .i64 n] rfl rfl (two_new w5 (.int .i64 t) (.int .i64 n) _) (fun u hu => by simp only [List.mem_cons, List.not_mem_nil, or_false] at hu; rcases hu with rfl | rfl <;> rfl) (by omega) HKa.out.2.size rfl ?_); intro g7 c7 w7 hown7 hg7 hx7; have H7 := Lib.hid (And.intro hown7 (HKa.out.2.grown hg7 HKa.out.2.size (fun q e => own_base HKa.out.1 q e))); clear hown7 hg7 hx7)
  (refine bodyPost_ret (v := .tuple #[(.slice (some ⟨g7, 0, none⟩) 1 c7), .int .i64 0]) (by simp [results, Tryz.results110, go_sem]) rfl ?_)
  rw [HR.out]
  exact ⟨_, _, rfl, H7.out.1, H7.out.2⟩
 ·rw [List.concat_eq_append] at hl hb HC HONE ⊢
  have hp := hb p (by simp)
  obtain ⟨k, hk⟩ : ∃ k, l'.length = k := ⟨_, rfl⟩
  have hlen : (l' ++ [p]).length = k + 1 := by rw [List.length_append, hk]; rfl
  rw [hlen] at hl HC ⊢
  have HL := Lib.hid (And.intro hk hlen)
  have HR := Lib.hid (late_snoc l' p t n)
  rw [hk] at HR
  obtain ⟨r, hr⟩ : ∃ r, lateF (l' ++ [p]) t n = r := ⟨_, rfl⟩
  rw [hr] at HR ⊢
  clear hk hlen hb hr
  go_enter Tryz.func110, Tryz.ntmps110
  go_upto_region 3 with (at_builtin; go_loud (refine zX pt_elem _ _ rfl w.heap.size (.slice none 0 0) 0 [] rfl (World.ownsRow_nil _ _ _ _) w.heap.size A (k + 1) c (pcs (l' ++ [p])) rfl HC.out HONE.out (by omega) (Nat.le_refl _) rfl ?_); intro A5 c5 w5 hown5 hg5; rw [Nat.zero_add, List.nil_append] at hown5; have HK := Lib.hid (And.intro hown5 ((Below.refl w.heap.size w).grown hg5 (Nat.le_refl _) (fun q e => by cases e))); clear hown5 hg5)
  obtain ⟨g, cap, hv, hgb, hglt⟩ := HK.out.1.form (Nat.succ_pos k)
  obtain rfl : A5 = some ⟨g, 0, none⟩ := by injection hv
  have hp9 : (l' ++ [p])[k]? = some p := by rw [← HL.out.1]; simp
  have hxl : (pcs (l' ++ [p])).length = (k + 1) * 2 := by rw [pcs_len, HL.out.2]
  have e0 : w5.cell? ⟨g, k * 2, none⟩ = some (.int .i64 p.t) := by
   have h := HK.out.1.cellAt (k * 2) (by omega)
   have h1 := pcs_at hp9 0 (by decide)
   rw [Nat.add_zero] at h1
   rw [h, h1]
   rfl
  have e1 : w5.cell? ⟨g, k * 2 + 1, none⟩ = some (.int .i64 p.a) := by
   have h := HK.out.1.cellAt (k * 2 + 1) (by omega)
   rw [h, pcs_at hp9 1 (by decide)]
   rfl
  have f1 : w5.frozen? ⟨g, k * 2 + 1, none⟩ = false := HK.out.1.frozenAt _
  obtain ⟨hp1, hp2⟩ := hp
  have hk1 : (0 : Int) < (k : Int) + 1 := by omega
  clear hp9 hxl
  by_cases h1 : t < p.t
  ·have HRR : Hid (r = .error 2) := Lib.hid (by rw [HR.out, if_pos h1])
   clear HR
   go_wp2_with fail
   (refine bodyPost_ret (v := .tuple #[(.slice none 0 0), .int .i64 2]) (by simp [results, Tryz.results110, go_sem]) rfl ?_)
   rw [HRR.out]
   exact ⟨rfl, HK.out.2⟩
  by_cases h2 : t = p.t
  ·subst h2
   have HR2 : Hid (r = if 4096 < p.a + n then .error 2 else .ok (l' ++ [⟨p.t, p.a + n⟩])) := Lib.hid (by rw [HR.out, if_neg h1, if_pos rfl])
   clear HR
   by_cases h3 : 4096 < p.a + n
   ·have HRR : Hid (r = .error 2) := Lib.hid (by rw [HR2.out, if_pos h3])
    clear HR2
    go_wp2_with fail
    (refine bodyPost_ret (v := .tuple #[(.slice none 0 0), .int .i64 2]) (by simp [results, Tryz.results110, go_sem]) rfl ?_)
    rw [HRR.out]
    exact ⟨rfl, HK.out.2⟩
   ·have HRR : Hid (r = .ok (l' ++ [⟨p.t, p.a + n⟩])) := Lib.hid (by rw [HR2.out, if_neg h3])
    clear HR2
    go_wp2_with fail
    (refine bodyPost_ret (v := .tuple #[(.slice (some ⟨g, 0, none⟩) (k + 1) c5), .int .i64 0]) (by simp [results, Tryz.results110, go_sem]) rfl ?_)
    rw [HRR.out]
    have hll : (l' ++ [(⟨p.t, p.a + n⟩ : Pt)]).length = k + 1 := by rw [List.length_append, HL.out.1]; rfl
    have hst := (HK.out.1.stored (k * 2 + 1) (.int .i64 (p.a + n))).1
    rw [← HL.out.1, pcs_set, HL.out.1] at hst
    refine ⟨some ⟨g, 0, none⟩, c5, by rw [hll], ?_, HK.out.2.setCell (p := ⟨g, k * 2 + 1, none⟩) hgb _⟩
    rw [hll]
    exact hst
  ·have HR2 : Hid (r = if 16 ≤ k + 1 then .error 4 else .ok (l' ++ [p] ++ [⟨t, n⟩])) := Lib.hid (by rw [HR.out, if_neg h1, if_neg h2])
   clear HR
   by_cases h3 : 16 ≤ k + 1
   ·have HRR : Hid (r = .error 4) := Lib.hid (by rw [HR2.out, if_pos h3])
    have h3' : (16 : Int) ≤ (k : Int) + 1 := by omega
    clear HR2 h3
    go_wp2_with fail
    (refine bodyPost_ret (v := .tuple #[(.slice none 0 0), .int .i64 4]) (by simp [results, Tryz.results110, go_sem]) rfl ?_)
    rw [HRR.out]
    exact ⟨rfl, HK.out.2⟩
   ·have HRR : Hid (r = .ok (l' ++ [p] ++ [⟨t, n⟩])) := Lib.hid (by rw [HR2.out, if_neg h3])
    have h3' : ¬ (16 : Int) ≤ (k : Int) + 1 := by omega
    have HKa : Hid ((w5.alloc (.cells #[.int .i64 t, .int .i64 n] 140)).ownsRow w.heap.size 140 2 (.slice (some ⟨g, 0, none⟩) (k + 1) c5) (k + 1) (pcs (l' ++ [p])) ∧ Below w.heap.size w (w5.alloc (.cells #[.int .i64 t, .int .i64 n] 140))) := Lib.hid ⟨own_below HK.out.1 ((Below.refl _ _).alloc (Nat.le_refl _) _), HK.out.2.alloc HK.out.2.size _⟩
    clear HR2 h3
    go_wp2_with (at_builtin; go_loud (refine zN pt_elem _ _ rfl w.heap.size (some ⟨g, 0, none⟩) (k + 1) c5 _ rfl HKa.out.1 ⟨w5.heap.size, 0, none⟩ 1 [.int .i64 t, .int .i64 n] rfl rfl (two_new w5 (.int .i64 t) (.int .i64 n) _) (fun u hu => by simp only [List.mem_cons, List.not_mem_nil, or_false] at hu; rcases hu with rfl | rfl <;> rfl) (by omega) HKa.out.2.size rfl ?_); intro g7 c7 w7 hown7 hg7 hx7; have H7 := Lib.hid (And.intro hown7 (HKa.out.2.grown hg7 HKa.out.2.size (fun q e => own_base HKa.out.1 q e))); clear hown7 hg7 hx7)
    (refine bodyPost_ret (v := .tuple #[(.slice (some ⟨g7, 0, none⟩) (k + 1 + 1) c7), .int .i64 0]) (by simp [results, Tryz.results110, go_sem]) rfl ?_)
    rw [HRR.out]
    have hll : (l' ++ [p] ++ [(⟨t, n⟩ : Pt)]).length = k + 1 + 1 := by rw [List.length_append, HL.out.2]; rfl
    refine ⟨_, _, by rw [hll], ?_, H7.out.2⟩
    rw [hll, pcs_append]
    exact H7.out.1
end Go.Proofs.YtofabhenmplkoaaGreatDoor.evt

/- A network in which the arcs between two places take more ticks: the reference. -/
namespace Go.Proofs.YtofabhenmplkoaaGreatDoor.evt
open Go.RowKit
open lib rd app els off typ big ins ord gen net
open win (tickB)
theorem rplace9_any (n : Nat) (A0 : Option Addr) (d0 : Nat) (A1 : Option Addr) (n1 d1 : Nat) (i : Int) (w : World) :
  Calls Tryz.prog 79 #[.agg #[.slice A0 n d0, .slice A1 n1 d1], .int .i64 i] w fun e w' => e = .returned (.bool (placeB n i)) ∧ Below w.heap.size w w' := by
 by_cases h : 0 ≤ i
 all_goals
  go_enter Tryz.func79, Tryz.ntmps79
  go_wp2
  go_ret
  exact ⟨ret_bool (by unfold placeB; first | (simp [h]; done) | (simp; omega)), by repeat (first | assumption | exact Below.refl _ _ | refine Below.drew ?_ | refine Below.alloc ?_ (by first | omega | (simp <;> omega)) _ | refine Below.setCell ?_ (by first | omega | (simp <;> omega)) _)⟩
def arcQ : List Value := arcL 0 0 0 (.slice none 0 0)
theorem arcQ_range : (List.range (1 * 6)).map (fun i => (Value.agg #[.int .i64 0, .int .i64 0, .int .i64 0, .int .i64 0, .slice none 0 0, .slice none 0 0]).cells[i % (Value.agg #[.int .i64 0, .int .i64 0, .int .i64 0, .int .i64 0, .slice none 0 0, .slice none 0 0]).cells.size]!) = arcQ := by kernel_rfl
theorem arcQ_fill (o : Arc) (C : Option Addr) (c : Nat) (D : Option Addr) (d : Nat) : Instr.fill (fun i => some (i * 6, 6)) arcQ.toArray [(0, .agg (zB o C c D d).toArray)] = some (zB o C c D d).toArray := by kernel_rfl
theorem arcQ_new (w : World) (o : Arc) (C : Option Addr) (c : Nat) (D : Option Addr) (d : Nat) (j : Nat) (u : Value) (h : (zB o C c D d)[j]? = some u) : (w.alloc (.cells (zB o C c D d).toArray 59)).cell? ((⟨w.heap.size, 0, none⟩ : Addr).add j) = some u :=
 World.news_of_block (w := w.alloc (.cells (zB o C c D d).toArray 59)) (B := w.heap.size) (World.alloc_heap_new w _) j u (by simpa using h)
structure SlwRt (w : World) (bd : Nat) (A0 : Option Addr) (m d0 : Nat) (A1 : Option Addr) (n1 d1 ob n : Nat) (B : Option Addr) (d : Nat) (CS : List Value) (xs : List Arc) (wx : World) : Prop where
 own : wx.ownsRow (ob + 1) 59 6 (.slice B n d) n CS
 els : EG oArc wx (fun b => some b ≠ (Value.slice B n d).ownBlock ∧ (b < bd ∨ ob + 1 ≤ b)) CS xs
 ibx : Blk wx w.heap.size 25 (netC A0 m d0 A1 n1 d1)
 obx : Blk wx ob 25 (netC A0 m d0 B n d)
 rbx : Blk wx (w.heap.size + 1) 25 (netC none 0 0 none 0 0)
 bel : Below w.heap.size w wx
 low : w.heap.size + 2 ≤ ob
section
variable {w wx wz : World} {A0 A1 B : Option Addr} {bd m d0 n1 d1 ob n d : Nat} {CS : List Value} {xs : List Arc}
theorem SlwRt.below (h : SlwRt w bd A0 m d0 A1 n1 d1 ob n B d CS xs wx) (hb : Below wx.heap.size wx wz) : SlwRt w bd A0 m d0 A1 n1 d1 ob n B d CS xs wz :=
 ⟨own_below h.own hb, h.els.below hb, h.ibx.below hb, h.obx.below hb, h.rbx.below hb, h.bel.trans (hb.mono (by have := h.obx.lt; have := h.low; omega)), h.low⟩
theorem SlwRt.push {x : Arc} {cx : List Value} {g c' : Nat} (h : SlwRt w bd A0 m d0 A1 n1 d1 ob n B d CS xs wx) (hbd : bd ≤ w.heap.size) (hx : oArc.at_ wx (fun b => some b ≠ (Value.slice B n d).ownBlock ∧ (b < bd ∨ ob + 1 ≤ b)) cx x)
  (hown : wz.ownsRow (ob + 1) 59 6 (.slice (some ⟨g, 0, none⟩) (n + 1) c') (n + 1) (CS ++ cx)) (hg : wx.grownBy wz (Value.slice B n d).ownBlock) (hd : (Value.slice B n d).ownBlock = some g ∨ wx.heap.size ≤ g) :
  SlwRt w bd A0 m d0 A1 n1 d1 ob (n + 1) (some ⟨g, 0, none⟩) c' (CS ++ cx) (xs ++ [x]) (wz.setCell ⟨ob, 1, none⟩ (.slice (some ⟨g, 0, none⟩) (n + 1) c')) := by
 have hlow := h.low
 have hne : ∀ k, k ≤ ob → some k ≠ (Value.slice B n d).ownBlock := fun k hk e => by
  have := (World.ownsRow.lt h.own k e.symm).1
  omega
 have hgb : ob + 1 ≤ g := (World.ownsRow.lt hown g rfl).1
 have hobz : Blk wz ob 25 (netC A0 m d0 B n d) := h.obx.kept hg (hne ob (Nat.le_refl _))
 have hk : ∀ k, k ≠ ob → (wz.setCell ⟨ob, 1, none⟩ (.slice (some ⟨g, 0, none⟩) (n + 1) c')).heap[k]? = wz.heap[k]? := fun k hk => Below.heap_setCell _ _ _ _ hk
 refine ⟨own_skip hown hobz (by decide) hk, ?_, (hk _ (by omega)).trans (h.ibx.kept hg (hne _ (by omega))), hobz.set 1 _, (hk _ (by omega)).trans (h.rbx.kept hg (hne _ (by omega))), ?_, hlow⟩
 ·refine (h.els.push hx hg hd).keep (by simp [World.setCell]) (fun b hb hp => ⟨hp, hk b ?_⟩)
  rcases hp.2 with h1 | h1 <;> omega
 ·exact (h.bel.grown hg h.bel.size (fun q e => by have := (World.ownsRow.lt h.own q e).1; omega)).setCell (p := ⟨ob, 1, none⟩) (by show w.heap.size ≤ ob; omega) _
end
theorem rowOff_and {w5 W9 : World} {q : Nat} {P : Nat → Prop} {A : Option Addr} {s : List Pt} (h : yK oPt w5 P A s) (h2 : yK oPt w5 (fun b => b ≠ q) A s) (hs : w5.heap.size ≤ W9.heap.size) (hk : ∀ b, b ≠ q → W9.heap[b]? = w5.heap[b]?) : yK oPt W9 P A s := ⟨h.1, fun i x hi => by
 obtain ⟨ad, cs, h3, h4, h5, h6, h7⟩ := h.2 i x hi
 obtain ⟨ad', cs', h3', h4', h5', h6', h7'⟩ := h2.2 i x hi
 obtain rfl : ad = ad' := Option.some.inj (h3.symm.trans h3')
 have hne : ad.block ≠ q := h4'
 obtain ⟨rfl, hf⟩ := oPt_at h6
 exact ⟨ad, _, h3, h4, Nat.lt_of_lt_of_le h5 hs, oPt_mk hf, fun j u hu => (World.cell?_of_block (by rw [block_of_add]; exact hk _ hne)).trans (h7 j u hu)⟩⟩
set_option maxRecDepth 20000 in
set_option maxHeartbeats 8000000 in
theorem rslower_any (N : Net) (A0 : Option Addr) (d0 : Nat) (A1 : Option Addr) (d1 : Nat) (f t at_ n : Int) (bd : Nat) (w : World) (hbd : bd ≤ w.heap.size) (h1 : RowAt rArc w bd A1 N.arcs) (hl : N.arcs.length ≤ 100000)
  (hs : ∀ a ∈ N.arcs, a.slow.length ≤ 500 ∧ ∀ p ∈ a.slow, -1000000 ≤ p.a ∧ p.a ≤ 1000000) :
  Calls Tryz.prog 50 #[.agg #[.slice A0 N.places.length d0, .slice A1 N.arcs.length d1], .int .i64 f, .int .i64 t, .int .i64 at_, .int .i64 n] w (SlwOut w bd A0 d0 (slwF N f t at_ n)) := by
 obtain ⟨W0, hW0⟩ : ∃ W0, (w.alloc (.cells (netC A0 N.places.length d0 A1 N.arcs.length d1).toArray 25)).alloc (.cells (netC none 0 0 none 0 0).toArray 25) = W0 := ⟨_, rfl⟩
 have hB0 : Below w.heap.size w W0 := by rw [← hW0]; exact ((Below.refl _ _).alloc (Nat.le_refl _) _).alloc (by simp) _
 have hz : W0.heap.size = w.heap.size + 2 := by rw [← hW0]; simp
 have b0 : Blk W0 w.heap.size 25 (netC A0 N.places.length d0 A1 N.arcs.length d1) := by
  rw [← hW0]
  exact (Blk.new w _ _).kept (World.grownBy_alloc _ _ none) (by simp)
 have b1 : Blk W0 (w.heap.size + 1) 25 (netC none 0 0 none 0 0) := by
  rw [← hW0]
  have h := Blk.new (w.alloc (.cells (netC A0 N.places.length d0 A1 N.arcs.length d1).toArray 25)) 25 (netC none 0 0 none 0 0)
  rw [show (w.alloc (.cells (netC A0 N.places.length d0 A1 N.arcs.length d1).toArray 25)).heap.size = w.heap.size + 1 by simp] at h
  exact h
 have hW1 : (w.alloc (.cells #[.slice A0 N.places.length d0, .slice A1 N.arcs.length d1] 25)).alloc (.cells #[.slice none 0 0, .slice none 0 0] 25) = W0 := hW0
 obtain ⟨m, hm⟩ : ∃ m, N.places.length = m := ⟨_, rfl⟩
 obtain ⟨n1, hn1⟩ : ∃ m, N.arcs.length = m := ⟨_, rfl⟩
 have HSF : Hid (slwF N f t at_ n = if ¬ (placeB m f = true ∧ placeB m t = true) then .error 11 else if ¬ (tickB at_ = true ∧ tickB n = true) then .error 2 else match slwTo N.arcs f t at_ n n1 with
  | .error e => .error e
  | .ok (r, b) => if b then .ok ⟨N.places, r⟩ else .error 12) := Lib.hid (by rw [← hm, ← hn1]; rfl)
 obtain ⟨r, hr⟩ : ∃ r, slwF N f t at_ n = r := ⟨_, rfl⟩
 rw [hr] at HSF ⊢
 rw [hm, hn1] at hW1 b0 ⊢
 rw [hn1] at hl
 have HNN := Lib.hid (And.intro hm hn1)
 have HSL := Lib.hid hs
 have HX := Lib.hid b0
 have HY := Lib.hid b1
 have HW1 := Lib.hid hW1
 have HBD := Lib.hid hbd
 have HRA := Lib.hid h1
 clear h1 hs hm hn1 hr hW0 hW1 b0 b1 hbd
 go_enter Tryz.func50, Tryz.ntmps50
 go_upto_region 1 with fail
 rw [HW1.out]
 clear HW1
 go_wp2_with ((with_reducible refine zH stNet _ rfl ⟨w.heap.size, 0, none⟩ (netC A0 m d0 A1 n1 d1) ?_ ?_ ?_ ?_ ?_); exact rfl; exact rfl; exact HX.out.cells; exact rfl)
 refine (rplace9_any m A0 d0 A1 n1 d1 f W0).mono ?_
 rintro e w1 ⟨rfl, b1⟩
 obtain ⟨p1, hp1⟩ : ∃ q, placeB m f = q := ⟨_, rfl⟩
 rw [hp1] at HSF ⊢
 clear hp1
 have HB1 := Lib.hid b1
 clear b1
 cases p1
 ·have HRR : Hid (r = .error 11) := Lib.hid (by rw [HSF.out, if_pos (by simp)])
  go_wp2_with ((with_reducible refine zJ stNet rfl _ _ rfl (w.heap.size + 1) (netC none 0 0 none 0 0) (netC none 0 0 none 0 0) ?_ ?_ ?_ ?_ ?_ (yD _ _ _ _ _ _) ?_); exact rfl; exact rfl; exact HY.out.below HB1.out; exact rfl; exact rfl; intro wz k1 k2 k3 k4; have K := lib.h4 k1 k2 k3 k4; clear k1 k2 k3 k4)
  have HRz : Blk wz (w.heap.size + 1) 25 (netC none 0 0 none 0 0) := K.out.1
  refine bodyPost_ret (v := .tuple #[.agg #[.slice none 0 0, .slice none 0 0], .int .i64 11]) (big.zK stNet Tryz.results50 rfl rfl HRz.cells rfl) rfl ?_
  rw [HRR.out]
  exact ⟨rfl, (hB0.trans (HB1.out.mono (by omega))).trans (K.out.2.2.2.mono (by omega))⟩
 go_wp2_with ((with_reducible refine zH stNet _ rfl ⟨w.heap.size, 0, none⟩ (netC A0 m d0 A1 n1 d1) ?_ ?_ ?_ ?_ ?_); exact rfl; exact rfl; exact (HX.out.below HB1.out).cells; exact rfl)
 refine (rplace9_any m A0 d0 A1 n1 d1 t w1).mono ?_
 rintro e w2 ⟨rfl, b2⟩
 obtain ⟨p2, hp2⟩ : ∃ q, placeB m t = q := ⟨_, rfl⟩
 rw [hp2] at HSF ⊢
 clear hp2
 have HB2 := Lib.hid (HB1.out.trans (b2.mono HB1.out.size))
 clear b2 HB1
 cases p2
 ·have HRR : Hid (r = .error 11) := Lib.hid (by rw [HSF.out, if_pos (by simp)])
  go_wp2_with ((with_reducible refine zJ stNet rfl _ _ rfl (w.heap.size + 1) (netC none 0 0 none 0 0) (netC none 0 0 none 0 0) ?_ ?_ ?_ ?_ ?_ (yD _ _ _ _ _ _) ?_); exact rfl; exact rfl; exact HY.out.below HB2.out; exact rfl; exact rfl; intro wz k1 k2 k3 k4; have K := lib.h4 k1 k2 k3 k4; clear k1 k2 k3 k4)
  have HRz : Blk wz (w.heap.size + 1) 25 (netC none 0 0 none 0 0) := K.out.1
  refine bodyPost_ret (v := .tuple #[.agg #[.slice none 0 0, .slice none 0 0], .int .i64 11]) (big.zK stNet Tryz.results50 rfl rfl HRz.cells rfl) rfl ?_
  rw [HRR.out]
  exact ⟨rfl, (hB0.trans (HB2.out.mono (by omega))).trans (K.out.2.2.2.mono (by omega))⟩
 have HSF1 : Hid (r = if ¬ (tickB at_ = true ∧ tickB n = true) then .error 2 else match slwTo N.arcs f t at_ n n1 with
  | .error e => .error e
  | .ok (r, b) => if b then .ok ⟨N.places, r⟩ else .error 12) := Lib.hid (by rw [HSF.out, if_neg (by simp)])
 clear HSF
 go_wp2_with fail
 refine (rnet.rtick_any at_ w2).mono ?_
 rintro e w3 ⟨rfl, rfl⟩
 cases hp3 : tickB at_
 ·have HRR : Hid (r = .error 2) := Lib.hid (by rw [HSF1.out, hp3, if_pos (by simp)])
  clear hp3
  go_wp2_with ((with_reducible refine zJ stNet rfl _ _ rfl (w.heap.size + 1) (netC none 0 0 none 0 0) (netC none 0 0 none 0 0) ?_ ?_ ?_ ?_ ?_ (yD _ _ _ _ _ _) ?_); exact rfl; exact rfl; exact HY.out.below HB2.out; exact rfl; exact rfl; intro wz k1 k2 k3 k4; have K := lib.h4 k1 k2 k3 k4; clear k1 k2 k3 k4)
  have HRz : Blk wz (w.heap.size + 1) 25 (netC none 0 0 none 0 0) := K.out.1
  refine bodyPost_ret (v := .tuple #[.agg #[.slice none 0 0, .slice none 0 0], .int .i64 2]) (big.zK stNet Tryz.results50 rfl rfl HRz.cells rfl) rfl ?_
  rw [HRR.out]
  exact ⟨rfl, (hB0.trans (HB2.out.mono (by omega))).trans (K.out.2.2.2.mono (by omega))⟩
 have hat : 0 ≤ at_ ∧ at_ ≤ 4096 := by unfold tickB at hp3; simpa using hp3
 have HAT := Lib.hid hat
 rw [hp3] at HSF1
 clear hp3 hat
 go_wp2_with fail
 refine (rnet.rtick_any n w2).mono ?_
 rintro e w3 ⟨rfl, rfl⟩
 cases hp4 : tickB n
 ·have HRR : Hid (r = .error 2) := Lib.hid (by rw [HSF1.out, hp4, if_pos (by simp)])
  clear hp4
  go_wp2_with ((with_reducible refine zJ stNet rfl _ _ rfl (w.heap.size + 1) (netC none 0 0 none 0 0) (netC none 0 0 none 0 0) ?_ ?_ ?_ ?_ ?_ (yD _ _ _ _ _ _) ?_); exact rfl; exact rfl; exact HY.out.below HB2.out; exact rfl; exact rfl; intro wz k1 k2 k3 k4; have K := lib.h4 k1 k2 k3 k4; clear k1 k2 k3 k4)
  have HRz : Blk wz (w.heap.size + 1) 25 (netC none 0 0 none 0 0) := K.out.1
  refine bodyPost_ret (v := .tuple #[.agg #[.slice none 0 0, .slice none 0 0], .int .i64 2]) (big.zK stNet Tryz.results50 rfl rfl HRz.cells rfl) rfl ?_
  rw [HRR.out]
  exact ⟨rfl, (hB0.trans (HB2.out.mono (by omega))).trans (K.out.2.2.2.mono (by omega))⟩
 have hnt : 0 ≤ n ∧ n ≤ 4096 := by unfold tickB at hp4; simpa using hp4
 have HNT := Lib.hid hnt
 have HSF2 : Hid (r = match slwTo N.arcs f t at_ n n1 with
  | .error e => .error e
  | .ok (r, b) => if b then .ok ⟨N.places, r⟩ else .error 12) := Lib.hid (by rw [HSF1.out, hp4, if_neg (by simp)])
 clear HSF1 hp4 hnt
 have hz2 := HB2.out.size
 have HBW := Lib.hid (hB0.trans (HB2.out.mono (by omega)))
 have HIB := Lib.hid (HX.out.below HB2.out)
 have HRB := Lib.hid (HY.out.below HB2.out)
 have ix0 := HIB.out.cell (j := 0) rfl
 go_upto_region 6 with fail
 clear ix0
 obtain ⟨W3, hW3⟩ : ∃ W3, w2.alloc (.cells (netC A0 m d0 none 0 0).toArray 25) = W3 := ⟨_, rfl⟩
 have hW3' : w2.alloc (.cells #[.slice A0 m d0, .slice none 0 0] 25) = W3 := hW3
 rw [hW3']
 have b23 : Below w2.heap.size w2 W3 := by rw [← hW3]; exact (Below.refl _ _).alloc (Nat.le_refl _) _
 obtain ⟨ob, hob⟩ : ∃ ob, w2.heap.size = ob := ⟨_, rfl⟩
 have HO : Hid (SlwRt w bd A0 m d0 A1 n1 d1 ob 0 none 0 [] [] W3) := Lib.hid (by
  refine ⟨World.ownsRow_nil _ _ _ _, EG.nil, HIB.out.below b23, ?_, HRB.out.below b23, HBW.out.trans (b23.mono (by omega)), by omega⟩
  rw [← hW3, ← hob]
  exact Blk.new w2 _ _)
 rw [hob]
 clear hW3 hW3' b23 hob HIB HRB HBW hz2 HB2 HX HY hB0
 go_upto_region 8 with fail
 go_loopw [13, 14] (fun fv i wr => ∃ (k : Nat) (rk : List Arc) (b : Bool) (B : Option Addr) (d : Nat) (CK : List Value), k ≤ n1 ∧ i = .int .i64 k ∧ fv = .bool b ∧ Hid (slwTo N.arcs f t at_ n k = .ok (rk, b) ∧ rk.length = k) ∧ Hid (SlwRt w bd A0 m d0 A1 n1 d1 ob k B d CK rk wr)) (fun _ i _ => n1 - (intOf i).toNat)
 case atStart => exact ⟨0, [], false, none, 0, [], by omega, rfl, rfl, Lib.hid ⟨rfl, rfl⟩, HO⟩
 case round =>
  clear HO
  obtain ⟨k, rk, b, B, d, CK, hk, rfl, rfl, HK, HO⟩ := hrel
  have ix := HO.out.ibx.cell (j := 1) rfl
  by_cases hlt : k < n1
  ·obtain ⟨x, hx⟩ : ∃ x, N.arcs[k]? = some x := ⟨_, List.getElem?_eq_getElem (by rw [HNN.out.2]; exact hlt)⟩
   obtain ⟨ad, cs0, hA, hadb, hat0, hcs0⟩ := ((HRA.out.below (HO.out.bel.mono HBD.out)).2 k x hx)
   obtain ⟨C0, c0, C1, c1, rfl, ht0, hs0, hf0⟩ := rArc_at hat0
   have HCE : Hid (CellsAt wr (ad.add (k * 6)) (zB x C0 c0 C1 c1)) := Lib.hid (fun j u hu => by rw [add_of_add]; exact hcs0 j u hu)
   have HRW := Lib.hid (And.intro ht0 (And.intro hs0 hf0))
   have HXS := Lib.hid (HSL.out x (List.mem_of_getElem? hx))
   have HDR := Lib.hid hx
   have hk0 : (0 : Int) ≤ (k : Int) := by omega
   have hkn : (k : Int) < (n1 : Int) := by omega
   rw [hA] at ix
   clear hx hcs0 hat0 ht0 hs0 hf0 hA
   go_upto_region 11 with (first
    | ((with_reducible refine zH stArc' _ rfl (ad.add (k * 6)) (zB x C0 c0 C1 c1) ?_ ?_ ?_ ?_ ?_); exact rfl; exact rfl; exact HCE.out; exact rfl)
    | ((with_reducible refine zJ stArc' rfl _ _ rfl wr.heap.size (arcL 0 0 0 (.slice none 0 0)) (zB x C0 c0 C1 c1) ?_ ?_ ?_ ?_ ?_ (yC _ _ _ _ _) ?_); exact rfl; exact rfl; exact Blk.new wr _ _; exact rfl; exact rfl; intro w4 k1 k2 k3 k4; have K := lib.h4 k1 k2 k3 k4; clear k1 k2 k3 k4))
   (try simp only [lib.hly])
   have b4 : Below wr.heap.size wr w4 := ((Below.refl _ _).alloc (Nat.le_refl _) _).trans K.out.2.2.2
   have HQ : Hid (Blk w4 wr.heap.size 59 (zB x C0 c0 C1 c1)) := Lib.hid K.out.1
   have HO4 := Lib.hid (HO.out.below b4)
   have hsz : w.heap.size + 2 ≤ ob ∧ ob < wr.heap.size := ⟨HO.out.low, HO.out.obx.lt⟩
   have hbb : bd ≤ w4.heap.size := by have := HBD.out; have := b4.size; omega
   have HRW4 : Hid (RowAt rPt w4 bd C0 x.travel ∧ RowAt rPt w4 bd C1 x.slow ∧ ArcFits x) := Lib.hid ⟨HRW.out.1.below (b4.mono (by have := HBD.out; omega)), HRW.out.2.1.below (b4.mono (by have := HBD.out; omega)), HRW.out.2.2⟩
   have HTR : Hid (yK oPt w4 (fun b => some b ≠ (Value.slice B k d).ownBlock ∧ (b < bd ∨ ob + 1 ≤ b)) C0 x.travel) := Lib.hid (yK.of_row (r := oPt) HRW4.out.1 hbb (fun b hb => ⟨fun e => by have := (World.ownsRow.lt HO4.out.own b e.symm).1; have := HBD.out; omega, .inl hb⟩) (fun c y h => oPt_low h))
   have HS4 : Hid (RowAt rPt w4 w4.heap.size C1 x.slow) := Lib.hid (HRW4.out.2.1.more hbb)
   obtain ⟨q, hq⟩ : ∃ q, wr.heap.size = q := ⟨_, rfl⟩
   have HEQ : Hid (EG oArc w4 (fun b => (some b ≠ (Value.slice B k d).ownBlock ∧ (b < bd ∨ ob + 1 ≤ b)) ∧ b ≠ q) CK rk) := Lib.hid (HO.out.els.keep b4.size (fun b hb hp => ⟨⟨hp, by omega⟩, b4.block b hb⟩))
   have HNQ : Hid ((Value.slice B k d).ownBlock ≠ some q) := Lib.hid (fun e => by have := (World.ownsRow.lt HO.out.own q e).2; omega)
   rw [hq] at HQ hsz ⊢
   have q0 := HQ.out.cell (j := 0) rfl
   have q1 := HQ.out.cell (j := 1) rfl
   have q5 := HQ.out.cell (j := 5) rfl
   clear K b4 HCE HO hq ix HRW hadb
   have HXN : Hid (oArc.at_ w4 (fun b => some b ≠ (Value.slice B k d).ownBlock ∧ (b < bd ∨ ob + 1 ≤ b)) (zB x C0 c0 C1 c1) x) := Lib.hid (oArc_mk HTR.out (yK.of_row (r := oPt) HRW4.out.2.1 hbb (fun b hb => ⟨fun e => by have := (World.ownsRow.lt HO4.out.own b e.symm).1; have := HBD.out; omega, .inl hb⟩) (fun c y h => oPt_low h)) HRW4.out.2.2)
   by_cases hw1 : x.frm = f
   rotate_left
   ·have hb1 : (x.frm == f) = false := by simp [hw1]
    have HNX : Hid (slwTo N.arcs f t at_ n (k + 1) = .ok (rk ++ [x], b)) := Lib.hid (by rw [slwTo_succ HDR.out HK.out.1, if_neg (by unfold way; simp [hw1])])
    clear hw1
    have HO9 := HO4
    have HX9 := HXN
    have HQ9 := HQ
    clear HO4 HXN HQ HTR HS4 HRW4 HEQ HNQ
    have y1 : w4.cell? ⟨ob, 1, none⟩ = some (.slice B k d) := HO9.out.obx.cell (j := 1) rfl
    have bl : Below w4.heap.size w4 (w4.alloc (.cells (zB x C0 c0 C1 c1).toArray 59)) := (Below.refl _ _).alloc (Nat.le_refl _) _
    have HOa := Lib.hid (HO9.out.below bl)
    have HXa := Lib.hid (oArc.below HX9.out bl)
    have hza : w.heap.size + 2 ≤ (w4.alloc (.cells (zB x C0 c0 C1 c1).toArray 59)).heap.size := by have := HOa.out.obx.lt; have := HOa.out.low; omega
    have hzb : ob + 1 ≤ (w4.alloc (.cells (zB x C0 c0 C1 c1).toArray 59)).heap.size := HOa.out.obx.lt
    have HZZ := Lib.hid (And.intro hza hzb)
    clear bl hza hzb HX9
    go_wp2_with (first
     | ((with_reducible refine zH stArc' _ rfl ⟨q, 0, none⟩ (zB x C0 c0 C1 c1) ?_ ?_ ?_ ?_ ?_); exact rfl; exact rfl; exact HQ9.out.cells; exact rfl)
     | ((with_reducible refine wpList_bsliceL arc_elem rfl 1 [(0, .tmp 79)] rfl [(0, .agg (zB x C0 c0 C1 c1).toArray)] (zB x C0 c0 C1 c1) arcQ ?_ (by decide) (by decide) arcQ_range (arcQ_fill x C0 c0 C1 c1) ?_); exact rfl)
     | (at_builtin; go_loud (refine zN arc_elem _ _ rfl (ob + 1) B k d CK rfl HOa.out.own ⟨w4.heap.size, 0, none⟩ 1 (zB x C0 c0 C1 c1) rfl rfl (arcQ_new w4 x C0 c0 C1 c1) (yC x C0 c0 C1 c1) (by omega) HZZ.out.2 rfl ?_); intro g8 c8 w8 hown8 hg8 hd8; have H8 := Lib.hid (HOa.out.push HBD.out HXa.out hown8 hg8 hd8); have hob8 := HOa.out.obx.kept hg8 (fun e => by have := (World.ownsRow.lt HOa.out.own ob e.symm).1; omega); clear hown8 hg8 hd8; have x8 := hob8.cell (j := 1) rfl; have f8 := hob8.frozen 1; clear hob8))
    exact ⟨⟨k + 1, rk ++ [x], b, some ⟨g8, 0, none⟩, c8, _, by omega, by go_num, rfl, Lib.hid ⟨HNX.out, by rw [List.length_append, HK.out.2]; rfl⟩, H8⟩, by simp [intOf]; omega⟩
   have hb1 : (x.frm == f) = true := by simp [hw1]
   by_cases hw2 : x.to = t
   rotate_left
   ·have hb2 : (x.to == t) = false := by simp [hw2]
    have HNX : Hid (slwTo N.arcs f t at_ n (k + 1) = .ok (rk ++ [x], b)) := Lib.hid (by rw [slwTo_succ HDR.out HK.out.1, if_neg (by unfold way; simp [hw2])])
    clear hw1 hw2
    have HO9 := HO4
    have HX9 := HXN
    have HQ9 := HQ
    clear HO4 HXN HQ HTR HS4 HRW4 HEQ HNQ
    have y1 : w4.cell? ⟨ob, 1, none⟩ = some (.slice B k d) := HO9.out.obx.cell (j := 1) rfl
    have bl : Below w4.heap.size w4 (w4.alloc (.cells (zB x C0 c0 C1 c1).toArray 59)) := (Below.refl _ _).alloc (Nat.le_refl _) _
    have HOa := Lib.hid (HO9.out.below bl)
    have HXa := Lib.hid (oArc.below HX9.out bl)
    have hza : w.heap.size + 2 ≤ (w4.alloc (.cells (zB x C0 c0 C1 c1).toArray 59)).heap.size := by have := HOa.out.obx.lt; have := HOa.out.low; omega
    have hzb : ob + 1 ≤ (w4.alloc (.cells (zB x C0 c0 C1 c1).toArray 59)).heap.size := HOa.out.obx.lt
    have HZZ := Lib.hid (And.intro hza hzb)
    clear bl hza hzb HX9
    go_wp2_with (first
     | ((with_reducible refine zH stArc' _ rfl ⟨q, 0, none⟩ (zB x C0 c0 C1 c1) ?_ ?_ ?_ ?_ ?_); exact rfl; exact rfl; exact HQ9.out.cells; exact rfl)
     | ((with_reducible refine wpList_bsliceL arc_elem rfl 1 [(0, .tmp 79)] rfl [(0, .agg (zB x C0 c0 C1 c1).toArray)] (zB x C0 c0 C1 c1) arcQ ?_ (by decide) (by decide) arcQ_range (arcQ_fill x C0 c0 C1 c1) ?_); exact rfl)
     | (at_builtin; go_loud (refine zN arc_elem _ _ rfl (ob + 1) B k d CK rfl HOa.out.own ⟨w4.heap.size, 0, none⟩ 1 (zB x C0 c0 C1 c1) rfl rfl (arcQ_new w4 x C0 c0 C1 c1) (yC x C0 c0 C1 c1) (by omega) HZZ.out.2 rfl ?_); intro g8 c8 w8 hown8 hg8 hd8; have H8 := Lib.hid (HOa.out.push HBD.out HXa.out hown8 hg8 hd8); have hob8 := HOa.out.obx.kept hg8 (fun e => by have := (World.ownsRow.lt HOa.out.own ob e.symm).1; omega); clear hown8 hg8 hd8; have x8 := hob8.cell (j := 1) rfl; have f8 := hob8.frozen 1; clear hob8))
    exact ⟨⟨k + 1, rk ++ [x], b, some ⟨g8, 0, none⟩, c8, _, by omega, by go_num, rfl, Lib.hid ⟨HNX.out, by rw [List.length_append, HK.out.2]; rfl⟩, H8⟩, by simp [intOf]; omega⟩
   have hb2 : (x.to == t) = true := by simp [hw2]
   have HNX : Hid (slwTo N.arcs f t at_ n (k + 1) = (match lateF x.slow at_ n with | .error e => .error e | .ok s => .ok (rk ++ [{ x with slow := s }], true))) := Lib.hid (by rw [slwTo_succ HDR.out HK.out.1, if_pos (by unfold way; simp [hw1, hw2])]; cases lateF x.slow at_ n <;> rfl)
   clear hw1 hw2
   go_wp2_with fail
   refine (delayed_any C1 c1 x.slow at_ n w4 HS4.out (by have := HXS.out.1; omega) HXS.out.2 HNT.out).mono ?_
   obtain ⟨s', hs'⟩ : ∃ s', lateF x.slow at_ n = s' := ⟨_, rfl⟩
   have HLF := Lib.hid hs'
   rw [hs'] at HNX ⊢
   clear hs' q0 q1 q5
   intro e w5 h5
   rcases s' with kk | s
   ·obtain ⟨rfl, b5⟩ := h5
    have hkk : (kk != 0) = true := by rcases late_err HLF.out with rfl | rfl <;> rfl
    have HRR : Hid (r = .error kk) := Lib.hid (by
     have h := slwTo_err HNX.out (n1 - (k + 1))
     rw [show k + 1 + (n1 - (k + 1)) = n1 by omega] at h
     rw [HSF2.out, h])
    have HO5 := Lib.hid (HO4.out.below b5)
    clear b5
    go_wp2_with ((with_reducible refine zJ stNet rfl _ _ rfl (w.heap.size + 1) (netC none 0 0 none 0 0) (netC none 0 0 none 0 0) ?_ ?_ ?_ ?_ ?_ (yD _ _ _ _ _ _) ?_); exact rfl; exact rfl; exact HO5.out.rbx; exact rfl; exact rfl; intro wz k1 k2 k3 k4; have K := lib.h4 k1 k2 k3 k4; clear k1 k2 k3 k4)
    have HRz : Blk wz (w.heap.size + 1) 25 (netC none 0 0 none 0 0) := K.out.1
    refine bodyPost_ret (v := .tuple #[.agg #[.slice none 0 0, .slice none 0 0], .int .i64 kk]) (big.zK stNet Tryz.results50 rfl rfl HRz.cells rfl) rfl ?_
    rw [HRR.out]
    exact ⟨rfl, (HO5.out.bel).trans (K.out.2.2.2.mono (by omega))⟩
   ·obtain ⟨A', c', rfl, hown, b5⟩ := h5
    have HO5 := Lib.hid (HO4.out.below b5)
    have HQ5 := Lib.hid (HQ.out.below b5)
    have HRS : Hid (yK oPt w5 (fun b => some b ≠ (Value.slice B k d).ownBlock ∧ (b < bd ∨ ob + 1 ≤ b)) A' s ∧ yK oPt w5 (fun b => b ≠ q) A' s) := Lib.hid (by
     obtain ⟨f1, f2⟩ := late_fits HLF.out (fun p hp => ⟨row_fits HS4.out p hp, HXS.out.2 p hp⟩) HAT.out HNT.out
     have hq9 := HQ.out.lt
     refine ⟨rowOff_pts hown (by have := HXS.out.1; omega) f1 (fun g' hg' _ => ⟨fun e' => ?_, ?_⟩), rowOff_pts hown (by have := HXS.out.1; omega) f1 (fun g' hg' _ => ?_)⟩
     ·have h9 := (World.ownsRow.lt HO4.out.own g' e'.symm).2
      have h8 : w4.heap.size ≤ g' := hg'
      omega
     ·have h8 : w4.heap.size ≤ g' := hg'
      exact .inr (by omega)
     ·have h8 : w4.heap.size ≤ g' := hg'
      show g' ≠ q
      omega)
    have q5 := HQ5.out.cell (j := 5) rfl
    have f5 := HQ5.out.frozen 5
    have HEQ5 := Lib.hid (HEQ.out.below b5)
    have HT6 : Hid (yK oPt w5 (fun b => b < bd) C0 x.travel) := Lib.hid (yK.of_row (r := oPt) (HRW4.out.1.below (b5.mono hbb)) (Nat.le_trans hbb b5.size) (fun b hb => hb) (fun c y h => oPt_low h))
    clear b5 hown HO4 HXN
    go_upto_region 17 with fail
    obtain ⟨W9, hW9⟩ : ∃ W9, w5.setCell ⟨q, 5, none⟩ (.slice A' s.length c') = W9 := ⟨_, rfl⟩
    rw [hW9]
    have hk9 : ∀ b, b ≠ q → W9.heap[b]? = w5.heap[b]? := fun b hb => by rw [← hW9]; exact Below.heap_setCell _ _ _ _ hb
    have hs9 : w5.heap.size ≤ W9.heap.size := by rw [← hW9]; simp [World.setCell]
    have HQ9 : Hid (Blk W9 q 59 (zB { x with slow := s } C0 c0 A' c')) := Lib.hid (by rw [← hW9]; exact HQ5.out.set 5 _)
    have HO9 : Hid (SlwRt w bd A0 m d0 A1 n1 d1 ob k B d CK rk W9) := Lib.hid (by
     have h := HO5.out
     have hg : w5.grownBy W9 (some q) := by rw [← hW9]; exact yH w5 q 5 _
     refine ⟨own_grown h.own hg (.inr HNQ.out), (HEQ5.out).keep hs9 (fun b hb hp => ⟨hp.1, hk9 b hp.2⟩), h.ibx.kept hg (fun e => by injection e; omega), h.obx.kept hg (fun e => by injection e; omega), h.rbx.kept hg (fun e => by injection e; omega), ?_, h.low⟩
     exact h.bel.grown hg h.bel.size (fun p e => by injection e; omega))
    have HX9 : Hid (oArc.at_ W9 (fun b => some b ≠ (Value.slice B k d).ownBlock ∧ (b < bd ∨ ob + 1 ≤ b)) (zB { x with slow := s } C0 c0 A' c') { x with slow := s }) := Lib.hid (by
     refine oArc_mk (t := { x with slow := s }) ?_ ?_ HRW4.out.2.2
     ·exact HT6.out.keep hs9 (fun b hb hp => ⟨⟨fun e => by have := (World.ownsRow.lt HO5.out.own b e.symm).1; have := HBD.out; omega, .inl hp⟩, hk9 b (by have := HBD.out; omega)⟩)
     ·exact rowOff_and HRS.out.1 HRS.out.2 hs9 hk9)
    clear hW9 hk9 hs9 HQ5 HO5 HRS HEQ5 HT6 q5 f5 HTR HS4 HRW4 HQ HEQ HNQ
    obtain ⟨y, hy⟩ : ∃ y, ({ x with slow := s } : Arc) = y := ⟨_, rfl⟩
    rw [hy] at HNX HQ9 HX9
    clear hy
    have y1 : W9.cell? ⟨ob, 1, none⟩ = some (.slice B k d) := HO9.out.obx.cell (j := 1) rfl
    have bl : Below W9.heap.size W9 (W9.alloc (.cells (zB y C0 c0 A' c').toArray 59)) := (Below.refl _ _).alloc (Nat.le_refl _) _
    have HOa := Lib.hid (HO9.out.below bl)
    have HXa := Lib.hid (oArc.below HX9.out bl)
    have hza : w.heap.size + 2 ≤ (W9.alloc (.cells (zB y C0 c0 A' c').toArray 59)).heap.size := by have := HOa.out.obx.lt; have := HOa.out.low; omega
    have hzb : ob + 1 ≤ (W9.alloc (.cells (zB y C0 c0 A' c').toArray 59)).heap.size := HOa.out.obx.lt
    have HZZ := Lib.hid (And.intro hza hzb)
    clear bl hza hzb HX9
    go_wp2_with (first
     | ((with_reducible refine zH stArc' _ rfl ⟨q, 0, none⟩ (zB y C0 c0 A' c') ?_ ?_ ?_ ?_ ?_); exact rfl; exact rfl; exact HQ9.out.cells; exact rfl)
     | ((with_reducible refine wpList_bsliceL arc_elem rfl 1 [(0, .tmp 79)] rfl [(0, .agg (zB y C0 c0 A' c').toArray)] (zB y C0 c0 A' c') arcQ ?_ (by decide) (by decide) arcQ_range (arcQ_fill y C0 c0 A' c') ?_); exact rfl)
     | (at_builtin; go_loud (refine zN arc_elem _ _ rfl (ob + 1) B k d CK rfl HOa.out.own ⟨W9.heap.size, 0, none⟩ 1 (zB y C0 c0 A' c') rfl rfl (arcQ_new W9 y C0 c0 A' c') (yC y C0 c0 A' c') (by omega) HZZ.out.2 rfl ?_); intro g8 c8 w8 hown8 hg8 hd8; have H8 := Lib.hid (HOa.out.push HBD.out HXa.out hown8 hg8 hd8); have hob8 := HOa.out.obx.kept hg8 (fun e => by have := (World.ownsRow.lt HOa.out.own ob e.symm).1; omega); clear hown8 hg8 hd8; have x8 := hob8.cell (j := 1) rfl; have f8 := hob8.frozen 1; clear hob8))
    exact ⟨⟨k + 1, rk ++ [y], true, some ⟨g8, 0, none⟩, c8, _, by omega, by go_num, rfl, Lib.hid ⟨HNX.out, by rw [List.length_append, HK.out.2]; rfl⟩, H8⟩, by simp [intOf]; omega⟩
  ·have hkn : k = n1 := by omega
   subst hkn
   clear hlt
   cases b
   ·have HRR : Hid (r = .error 12) := Lib.hid (by rw [HSF2.out, HK.out.1]; rfl)
    go_wp2_with ((with_reducible refine zJ stNet rfl _ _ rfl (w.heap.size + 1) (netC none 0 0 none 0 0) (netC none 0 0 none 0 0) ?_ ?_ ?_ ?_ ?_ (yD _ _ _ _ _ _) ?_); exact rfl; exact rfl; exact HO.out.rbx; exact rfl; exact rfl; intro wz k1 k2 k3 k4; have K := lib.h4 k1 k2 k3 k4; clear k1 k2 k3 k4)
    have HRz : Blk wz (w.heap.size + 1) 25 (netC none 0 0 none 0 0) := K.out.1
    refine bodyPost_ret (v := .tuple #[.agg #[.slice none 0 0, .slice none 0 0], .int .i64 12]) (big.zK stNet Tryz.results50 rfl rfl HRz.cells rfl) rfl ?_
    rw [HRR.out]
    exact ⟨rfl, (HO.out.bel).trans (K.out.2.2.2.mono (by omega))⟩
   ·have HRR : Hid (r = .ok ⟨N.places, rk⟩) := Lib.hid (by rw [HSF2.out, HK.out.1]; rfl)
    go_wp2_with (first
     | ((with_reducible refine zH stNet _ rfl ⟨ob, 0, none⟩ (netC A0 m d0 B k d) ?_ ?_ ?_ ?_ ?_); exact rfl; exact rfl; exact HO.out.obx.cells; exact rfl)
     | ((with_reducible refine zJ stNet rfl _ _ rfl (w.heap.size + 1) (netC none 0 0 none 0 0) (netC A0 m d0 B k d) ?_ ?_ ?_ ?_ ?_ (yD _ _ _ _ _ _) ?_); exact rfl; exact rfl; exact HO.out.rbx; exact rfl; exact rfl; intro wz k1 k2 k3 k4; have K := lib.h4 k1 k2 k3 k4; clear k1 k2 k3 k4))
    have HRz : Blk wz (w.heap.size + 1) 25 (netC A0 m d0 B k d) := K.out.1
    refine bodyPost_ret (v := .tuple #[.agg #[.slice A0 m d0, .slice B k d], .int .i64 0]) (big.zK stNet Tryz.results50 rfl rfl HRz.cells rfl) rfl ?_
    rw [HRR.out]
    refine ⟨B, d, by rw [HNN.out.1, HK.out.2], ?_, HO.out.bel.trans (K.out.2.2.2.mono (by omega))⟩
    have hown := own_skip HO.out.own HO.out.rbx (by decide) K.out.2.1
    have hgr : wr.heap.size ≤ wz.heap.size := by rw [K.out.2.2.1]; exact Nat.le_refl _
    have hlow := HO.out.low
    have hbd := HBD.out
    have hels : EG oArc wz (fun b => b < bd ∨ w.heap.size ≤ b) CK rk := HO.out.els.keep hgr (fun b hb hp => ⟨by rcases hp.2 with h | h <;> omega, K.out.2.1 b (by rcases hp.2 with h | h <;> omega)⟩)
    exact EG.off (by rw [HK.out.2]; exact hown) hels (by rw [HK.out.2]; omega) (fun b _ h => h) (fun b hb => .inr (by have h : ob + 1 ≤ b := hb; omega))
end Go.Proofs.YtofabhenmplkoaaGreatDoor.evt
