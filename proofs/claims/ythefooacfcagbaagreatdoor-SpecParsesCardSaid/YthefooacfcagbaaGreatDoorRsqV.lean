import Derived.Test.YthefooacfcagbaaGreatDoorRsqI
import Derived.Test.YthefooacfcagbaaGreatDoorParB
/- The reference's lines, read: what they answer, in plain words. -/
namespace Go.Proofs.YthefooacfcagbaaGreatDoor.spc
open Go.RowKit
open lib rd app els typ big gen off
open ins (InP InAt InV)
open txt (in64 By strV strV_of)
set_option linter.unusedVariables false
set_option linter.unusedSimpArgs false
def plcX (x : Ins) : List By → Option Ins
 | [s] => some (Lin.add x (.place ⟨s.toArray⟩))
 | _ => none
def finX (x : Ins) : List By → Option Ins
 | [] => some x
 | _ => none
def rdX (x : Ins) : List By → Option Ins
 | [] => none
 | y :: T => if y = kwP then plcX x T else if y = kwA then arcX x (y :: T) else if y = kwT then typX x (y :: T) else if y = kwO then ordX x (y :: T) else if y = kwE then finX x T else pairX x (y :: T)
theorem rdX_cons (x : Ins) (y : By) (T : List By) : rdX x (y :: T) = if y = kwP then plcX x T else if y = kwA then arcX x (y :: T) else if y = kwT then typX x (y :: T) else if y = kwO then ordX x (y :: T) else if y = kwE then finX x T else pairX x (y :: T) := rfl
theorem arcX_of {x x' : Ins} {y : By} {T : List By} (h : arcX x (y :: T) = some x') : ∃ a, arcOk a ∧ T = arcW a ∧ x' = Lin.add x (.arc a) := by
 unfold arcX at h
 split at h
 ·rename_i y a b c d t s heq
  injection heq with e1 e2
  subst e2
  split at h
  ·rename_i n0 n1 n2 n3 l m h1 h2 h3
   have g1 := dec_readF h1
   have g2 := trvF_trvR h2
   have g3 := trvF_trvR h3
   have h64 := (readF_len h1).2
   simp only [List.map_cons, List.map_nil, List.cons.injEq, and_true] at g1
   refine ⟨⟨n0, n1, n2, n3, l, m⟩, ⟨⟨h64 _ (by simp), h64 _ (by simp), h64 _ (by simp), h64 _ (by simp)⟩, g2.2, g3.2⟩, ?_, (Option.some.inj h).symm⟩
   simp only [arcW]
   rw [g1.1, g1.2.1, g1.2.2.1, g1.2.2.2, ← g2.1, ← g3.1]
  ·cases h
 ·cases h
theorem typX_of {x x' : Ins} {y : By} {T : List By} (hw : ∀ y ∈ T, txt.wordB y = true) (hsz : ∀ y ∈ T, y.length ≤ 1000000) (h : typX x (y :: T) = some x') : ∃ a, tyOk a ∧ T = typeW a ∧ x' = Lin.add x (.type a) := by
 unfold typX at h
 split at h
 ·rename_i y0 y1 y2 y3 y4 y5 y6 y7 y8 y9 y10 y11 y12 y13 y14 heq
  injection heq with e1 e2
  subst e2
  split at h
  ·rename_i a0 a1 a2 c b0 b1 b2 b3 b4 b5 b6 b7 b8 h1 h2 h3
   have g1 := dec_readF h1
   have g2 := listF_listR h2
   have g3 := dec_readF h3
   have h64 := (readF_len h1).2
   have k64 := (readF_len h3).2
   simp only [List.map_cons, List.map_nil, List.cons.injEq, and_true] at g1 g3
   have hn := hw y1 (by simp)
   have hs := hsz y1 (by simp)
   refine ⟨⟨⟨y1.toArray⟩, a0, a1, a2, c, b0, b1, b2, b3, b4, b5, b6, b7, b8⟩, ⟨by simpa using hn, ⟨?_, h64 _ (by simp), h64 _ (by simp), h64 _ (by simp), k64 _ (by simp), k64 _ (by simp), k64 _ (by simp), k64 _ (by simp), k64 _ (by simp), k64 _ (by simp), k64 _ (by simp), k64 _ (by simp), k64 _ (by simp)⟩, g2.2⟩, ?_, (Option.some.inj h).symm⟩
   ·show y1.toArray.size ≤ _
    rw [List.size_toArray]
    omega
   ·simp only [typeW]
    obtain ⟨q0, q1, q2, q3, q4, q5, q6, q7, q8⟩ := g3
    rw [g1.1, g1.2.1, g1.2.2, ← g2.1, q0, q1, q2, q3, q4, q5, q6, q7, q8]
  ·cases h
 ·cases h
theorem ordX_of {x x' : Ins} {y : By} {T : List By} (hw : ∀ y ∈ T, txt.wordB y = true) (hsz : ∀ y ∈ T, y.length ≤ 1000000) (h : ordX x (y :: T) = some x') : ∃ a, ordOk a ∧ T = orderW a ∧ x' = Lin.add x (.order a) := by
 unfold ordX at h
 split at h
 ·rename_i y0 y1 y2 y3 y4 y5 y6 y7 y8 y9 y10 heq
  injection heq with e1 e2
  subst e2
  split at h
  ·rename_i hst
   split at h
   ·rename_i l p q a0 a1 a2 a3 a4 h1 h2 h3 h4
    have g1 := listF_listR h1
    have g2 := stopF_stopR h2
    have g3 := stopF_stopR h3
    have g4 := dec_readF h4
    have k64 := (readF_len h4).2
    simp only [List.map_cons, List.map_nil, List.cons.injEq, and_true] at g4
    have hn := hw y1 (by simp)
    have hs := hsz y1 (by simp)
    refine ⟨⟨⟨y1.toArray⟩, l, p, q, a0, a1, a2, a3, a4, decide (y10 = offW)⟩, ⟨by simpa using hn, ⟨?_, g2.2, g3.2, k64 _ (by simp), k64 _ (by simp), k64 _ (by simp), k64 _ (by simp), k64 _ (by simp)⟩, g1.2⟩, ?_, (Option.some.inj h).symm⟩
    ·show y1.toArray.size ≤ _
     rw [List.size_toArray]
     omega
    ·have e10 : stateW (decide (y10 = offW)) = y10 := by
      rcases hst with h | h
      ·rw [h]; rfl
      ·rw [h]; rfl
     simp only [orderW]
     obtain ⟨q0, q1, q2, q3, q4⟩ := g4
     rw [e10, ← g1.1, ← g2.1, ← g3.1, q0, q1, q2, q3, q4]
   ·cases h
  ·cases h
 ·cases h
theorem pairX_of {x x' : Ins} {y : By} {T : List By} (h : pairX x (y :: T) = some x') : ∃ p, pairOk p ∧ T = pairW p ∧ x' = if y = kwX then Lin.add x (.apart p) else Lin.add x (.before p) := by
 unfold pairX at h
 split at h
 ·rw [show (y :: T).drop 1 = T from rfl] at h
  split at h
  ·rename_i a b h1
   have g := dec_readF h1
   have h64 := (readF_len h1).2
   refine ⟨(a, b), ⟨h64 _ (by simp), h64 _ (by simp)⟩, by rw [g]; rfl, ?_⟩
   rw [← Option.some.inj h]
   by_cases hy : y = kwX
   ·rw [if_pos hy, if_pos (by rw [hy]; rfl)]
   ·show (if some y = some kwX then _ else _) = _
    rw [if_neg hy, if_neg (fun e => hy (Option.some.inj e))]
  ·cases h
 ·cases h
theorem kw_of {y : By} (h : rankF y ≠ 0) : y = kwP ∨ y = kwA ∨ y = kwT ∨ y = kwO ∨ y = kwX ∨ y = kwB ∨ y = kwE := by
 unfold rankF kws at h
 simp only [rankK] at h
 by_cases h1 : kwP = y
 ·exact .inl h1.symm
 by_cases h2 : kwA = y
 ·exact .inr (.inl h2.symm)
 by_cases h3 : kwT = y
 ·exact .inr (.inr (.inl h3.symm))
 by_cases h4 : kwO = y
 ·exact .inr (.inr (.inr (.inl h4.symm)))
 by_cases h5 : kwX = y
 ·exact .inr (.inr (.inr (.inr (.inl h5.symm))))
 by_cases h6 : kwB = y
 ·exact .inr (.inr (.inr (.inr (.inr (.inl h6.symm)))))
 by_cases h7 : kwE = y
 ·exact .inr (.inr (.inr (.inr (.inr (.inr h7.symm)))))
 rw [if_neg h1, if_neg h2, if_neg h3, if_neg h4, if_neg h5, if_neg h6, if_neg h7] at h
 exact absurd rfl h
theorem rd_some {x x' : Ins} {y : By} {T : List By} (hw : ∀ u ∈ y :: T, txt.wordB u = true) (hsz : ∀ u ∈ y :: T, u.length ≤ 1000000) (h : rdX x (y :: T) = some x') (hk : rankF y ≠ 0) : ∃ r : Lin, r.ok ∧ y :: T = r.words ∧ x' = r.add x := by
 have hw' : ∀ u ∈ T, txt.wordB u = true := fun u hu => hw u (List.mem_cons_of_mem _ hu)
 have hsz' : ∀ u ∈ T, u.length ≤ 1000000 := fun u hu => hsz u (List.mem_cons_of_mem _ hu)
 have hkw := kw_of hk
 rw [rdX_cons] at h
 by_cases h1 : y = kwP
 ·rw [if_pos h1] at h
  unfold plcX at h
  split at h
  ·rename_i s
   refine ⟨.place ⟨s.toArray⟩, ⟨by simpa using hw' s (by simp), ?_⟩, by rw [h1]; simp [Lin.words], (Option.some.inj h).symm⟩
   have := hsz' s (by simp)
   show s.toArray.size ≤ _
   rw [List.size_toArray]
   omega
  ·cases h
 rw [if_neg h1] at h
 by_cases h2 : y = kwA
 ·rw [if_pos h2] at h
  obtain ⟨a, g1, g2, g3⟩ := arcX_of h
  exact ⟨.arc a, g1, by rw [h2, g2]; rfl, g3⟩
 rw [if_neg h2] at h
 by_cases h3 : y = kwT
 ·rw [if_pos h3] at h
  obtain ⟨a, g1, g2, g3⟩ := typX_of hw' hsz' h
  exact ⟨.type a, g1, by rw [h3, g2]; rfl, g3⟩
 rw [if_neg h3] at h
 by_cases h4 : y = kwO
 ·rw [if_pos h4] at h
  obtain ⟨a, g1, g2, g3⟩ := ordX_of hw' hsz' h
  exact ⟨.order a, g1, by rw [h4, g2]; rfl, g3⟩
 rw [if_neg h4] at h
 by_cases h5 : y = kwE
 ·rw [if_pos h5] at h
  unfold finX at h
  split at h
  ·exact ⟨.fin, trivial, by rw [h5]; rfl, (Option.some.inj h).symm⟩
  ·cases h
 rw [if_neg h5] at h
 obtain ⟨p, g1, g2, g3⟩ := pairX_of h
 by_cases h6 : y = kwX
 ·exact ⟨.apart p, g1, by rw [h6, g2]; rfl, by rw [g3, if_pos h6]⟩
 ·have h7 : y = kwB := by
   rcases hkw with h | h | h | h | h | h | h
   ·exact absurd h h1
   ·exact absurd h h2
   ·exact absurd h h3
   ·exact absurd h h4
   ·exact absurd h h6
   ·exact h
   ·exact absurd h h5
  exact ⟨.before p, g1, by rw [h7, g2]; rfl, by rw [g3, if_neg h6]⟩
theorem rd_words (x : Ins) {r : Lin} (h : r.ok) : rdX x r.words = some (r.add x) := by
 cases r with
 | place s =>
  show rdX x [kwP, s.data.toList] = _
  rw [rdX_cons, if_pos rfl]
  rfl
 | arc a =>
  obtain ⟨⟨h1, h2, h3, h4⟩, h5, h6⟩ := h
  show rdX x (kwA :: arcW a) = _
  rw [rdX_cons, if_neg (by decide), if_pos rfl]
  have h64 : ∀ z ∈ [a.frm, a.to, a.profile, a.miles], in64 z := fun z hz => by
   simp only [List.mem_cons, List.not_mem_nil, or_false] at hz
   rcases hz with rfl | rfl | rfl | rfl <;> assumption
  exact arcX_some (readF_dec h64) (trvR_trvF h5) (trvR_trvF h6)
 | type t =>
  obtain ⟨h0, ⟨-, i1, i2, i3, i4, i5, i6, i7, i8, i9, i10, i11, i12⟩, h2⟩ := h
  show rdX x (kwT :: typeW t) = _
  rw [rdX_cons, if_neg (by decide), if_neg (by decide), if_pos rfl]
  have h64 : ∀ z ∈ [t.count, t.frm, t.to], in64 z := fun z hz => by
   simp only [List.mem_cons, List.not_mem_nil, or_false] at hz
   rcases hz with rfl | rfl | rfl <;> assumption
  have k64 : ∀ z ∈ [t.skills, t.profile, t.opn, t.close, t.drive, t.rest, t.fixed, t.mile, t.tick], in64 z := fun z hz => by
   simp only [List.mem_cons, List.not_mem_nil, or_false] at hz
   rcases hz with rfl | rfl | rfl | rfl | rfl | rfl | rfl | rfl | rfl <;> assumption
  exact typX_some (y0 := kwT) (readF_dec h64) (listR_listF h2) (readF_dec k64)
 | order o =>
  obtain ⟨h0, ⟨-, hp, hd, i1, i2, i3, i4, i5⟩, h2⟩ := h
  show rdX x (kwO :: orderW o) = _
  rw [rdX_cons, if_neg (by decide), if_neg (by decide), if_neg (by decide), if_pos rfl]
  have k64 : ∀ z ∈ [o.skills, o.penalty, o.split, o.last, o.now], in64 z := fun z hz => by
   simp only [List.mem_cons, List.not_mem_nil, or_false] at hz
   rcases hz with rfl | rfl | rfl | rfl | rfl <;> assumption
  exact ordX_some (y0 := kwO) rfl (listR_listF h2) (stopR_stopF hp) (stopR_stopF hd) (readF_dec k64)
 | apart p =>
  show rdX x (kwX :: pairW p) = _
  rw [rdX_cons, if_neg (by decide), if_neg (by decide), if_neg (by decide), if_neg (by decide), if_neg (by decide)]
  have k64 : ∀ z ∈ [p.1, p.2], in64 z := fun z hz => by
   simp only [List.mem_cons, List.not_mem_nil, or_false] at hz
   rcases hz with rfl | rfl
   ·exact h.1
   ·exact h.2
  unfold pairX
  rw [if_pos (by rfl), show (kwX :: pairW p).drop 1 = [p.1, p.2].map Lib.itoa from rfl, readF_dec k64]
  dsimp only
  rw [if_pos (by rfl)]
 | before p =>
  show rdX x (kwB :: pairW p) = _
  rw [rdX_cons, if_neg (by decide), if_neg (by decide), if_neg (by decide), if_neg (by decide), if_neg (by decide)]
  have k64 : ∀ z ∈ [p.1, p.2], in64 z := fun z hz => by
   simp only [List.mem_cons, List.not_mem_nil, or_false] at hz
   rcases hz with rfl | rfl
   ·exact h.1
   ·exact h.2
  unfold pairX
  rw [if_pos (by rfl), show (kwB :: pairW p).drop 1 = [p.1, p.2].map Lib.itoa from rfl, readF_dec k64]
  dsimp only
  rw [if_neg (show ¬ (kwB :: pairW p).head? = some kwX from fun e => absurd (Option.some.inj e) (by decide))]
 | fin =>
  show rdX x [kwE] = _
  rw [rdX_cons, if_neg (by decide), if_neg (by decide), if_neg (by decide), if_neg (by decide), if_pos rfl]
  rfl
theorem rd_none {x : Ins} {W : List By} (h : rdX x W = none) (r : Lin) (hr : r.ok) : W ≠ r.words := fun e => by
 rw [e, rd_words x hr] at h
 cases h
end Go.Proofs.YthefooacfcagbaaGreatDoor.spc

/- The reference's lines, read. -/
namespace Go.Proofs.YthefooacfcagbaaGreatDoor.spc
open Go.RowKit
open lib rd app els typ big gen off
open ins (InP InAt InV)
open txt (in64 By strV strV_of elem_str)
set_option linter.unusedVariables false
set_option linter.unusedSimpArgs false
section
variable {G : Nat → Option Nat} {Z : Nat → Prop} {x : Ins} {P : InP} {H : Nat} {w wx w' : World} {o : Option Ins} {e : Ending}
theorem RdS.call (h : RdS G Z x P H w wx) (ho : XvOut G (Zn Z H) o wx e w') : ∃ y Q b, e = .returned (.tuple #[.agg (xCs y Q).toArray, .bool b]) ∧ Blk w' (H + 1) 30 (xCs nilX nilP) ∧ ∀ wz, (∀ k, k ≠ H + 1 → wz.heap[k]? = w'.heap[k]?) → wz.heap.size = w'.heap.size → Below (H + 1) w' wz → XvOut G Z o w (.returned (.tuple #[.agg (xCs y Q).toArray, .bool b])) wz := by
 have hgt := h.hgt
 rcases ho with ⟨x', P', G', rfl, rfl, hX, hk, hs⟩ | ⟨rfl, hb, y, Q, rfl⟩
 ·refine ⟨x', P', true, rfl, (hk.block _ h.res.lt (fun i e => by have := h.far i _ e; omega)).trans h.res, fun wz k2 k3 k4 => .inl ⟨x', P', G', rfl, rfl, hX.keep (Nat.le_of_eq k3.symm) fun q hq hz => ⟨hz.1, k2 q hz.2.2⟩, ?_, fun i g e => ?_⟩⟩
  ·have h1 : XKeep G w wx := XKeep.of_below (by rw [hgt]; exact h.low)
   have h2 := h1.trans hk (GSub.refl G w)
   exact ⟨k4.os.trans h2.os, k4.tape.trans h2.tape, k4.output.trans h2.output, Nat.le_trans h2.size k4.size, fun q hq hn => (k2 q (by omega)).trans (h2.block q hq hn)⟩
  ·rcases hs i g e with h3 | h3
   ·exact .inl h3
   ·exact .inr (by have := h.low.size; omega)
 ·refine ⟨y, Q, false, rfl, h.res.below hb, fun wz k2 k3 k4 => .inr ⟨rfl, ?_, y, Q, rfl⟩⟩
  rw [hgt]
  exact (h.low.trans (hb.mono (by have := h.low.size; omega))).trans (k4.mono (Nat.le_succ _))
theorem RdS.same (h : RdS G Z x P H w wx) {wy : World} (k2 : ∀ k, k ≠ H + 1 → wy.heap[k]? = wx.heap[k]?) (k3 : wy.heap.size = wx.heap.size) (k4 : Below (H + 1) wx wy) : XvOut G Z (some x) w (.returned (.tuple #[.agg (xCs x P).toArray, .bool true])) wy := by
 have hgt := h.hgt
 refine .inl ⟨x, P, G, rfl, rfl, h.rows.keep (Nat.le_of_eq k3.symm) fun q hq hz => ⟨hz.1, k2 q hz.2.2⟩, XKeep.of_below ?_, GSub.refl G w⟩
 rw [hgt]
 exact h.low.trans (k4.mono (Nat.le_succ _))
end
theorem str_elem' : ElemOf 22 9 (.string ⟨#[]⟩) 1 16 := elem_str
set_option maxRecDepth 20000 in
set_option maxHeartbeats 8000000 in
theorem rread_any (G : Nat → Option Nat) (Z : Nat → Prop) (x : Ins) (P : InP) (y0 : By) (T : List By) (A : Option Addr) (n d : Nat) (w : World) (hX : XG G w Z x P) (hZ : ∀ q, w.heap.size ≤ q → Z q) (hsm : Sm x) (hW : WAt w A n d (y0 :: T)) (hfar : ∀ ad : Addr, A = some ad → ad.block < w.heap.size ∧ ∀ i, some ad.block ≠ G i) (hok : ∀ y ∈ y0 :: T, txt.wordB y = true) :
  Calls Tryz.prog 39 #[InV x P, .slice A n d] w (XvOut G Z (rdX x (y0 :: T)) w) := by
 obtain ⟨R, hR⟩ : ∃ R, rdX x (y0 :: T) = R := ⟨_, rfl⟩
 have HR := Lib.hid hR
 have HFA := Lib.hid hfar
 have HOK := Lib.hid hok
 rw [hR]
 clear hR hfar hok
 have HX := Lib.hid (RdS.start hX hZ)
 have HWA := Lib.hid hW
 have HSM := Lib.hid hsm
 obtain ⟨W0, hW0⟩ : ∃ W, (w.alloc (.cells (xCs x P).toArray 30)).alloc (.cells (xCs nilX nilP).toArray 30) = W := ⟨_, rfl⟩
 have HW0 := Lib.hid (show (w.alloc (.cells #[.slice P.a0 x.net.places.length P.c0, .slice P.a1 x.net.arcs.length P.c1, .slice P.a2 x.types.length P.c2, .slice P.a3 x.orders.length P.c3, .slice P.a4 x.apart.length P.c4, .slice P.a5 x.before.length P.c5] 30)).alloc (.cells #[.slice none 0 0, .slice none 0 0, .slice none 0 0, .slice none 0 0, .slice none 0 0, .slice none 0 0] 30) = W0 from hW0)
 rw [hW0] at HX
 have HWA0 : Hid (WAt W0 A n d _) := Lib.hid (hW.below (by rw [← hW0]; exact ((Below.refl _ _).alloc (Nat.le_refl _) _).alloc (by rw [World.size_alloc]; omega) _))
 have hWc := hW.cap
 have hwz := HX.out.lt
 clear hX hZ hW hsm hW0
 go_enter Tryz.func39, Tryz.ntmps39
 go_upto_region 1 with fail
 rw [HW0.out]
 clear HW0
 have hn0 : 0 < n := by rw [HWA0.out.len]; simp
 obtain ⟨ad, hA, hadb, hcs⟩ := HWA0.out.rd.2 hn0
 subst hA
 obtain ⟨hadw, hne0⟩ := HFA.out ad rfl
 have HNE := Lib.hid hne0
 have hc0 : W0.cell? (ad.add 0) = some (.string ⟨y0.toArray⟩) := hcs 0 _ rfl
 rw [show ad.add 0 = ad from rfl] at hc0
 have HCS := Lib.hid hcs
 have hzz := HX.out.low.size
 have HFA0 : Hid (∀ ad' : Addr, some ad = some ad' → ad'.block < W0.heap.size ∧ ∀ i, some ad'.block ≠ G i) := Lib.hid (fun ad' e => by obtain ⟨k1, k2⟩ := HFA.out ad' e; exact ⟨by omega, k2⟩)
 have HZN : Hid (∀ q, W0.heap.size ≤ q → Zn Z w.heap.size q) := Lib.hid (fun q hq => ⟨HX.out.new q (by omega), by omega, by omega⟩)
 have hi0 : (0 : Int) < (n : Int) := by omega
 clear hcs hne0 HWA
 by_cases h1 : y0 = kwP
 ·have e1 : (y0 == [112, 108, 97, 99, 101]) = true := beq_iff_eq.2 h1
  have HE : Hid (R = plcX x T) := Lib.hid (by rw [← HR.out, rdX_cons, if_pos h1])
  clear h1
  by_cases h3 : n = 2
  rotate_left
  ·have h3i : ¬ (n : Int) = 2 := by omega
   have h3b : ((n : Int) != 2) = true := by simpa using h3i
   have HE2 : Hid (R = none) := Lib.hid (by
    rw [HE.out]
    unfold plcX
    split
    ·exact absurd HWA0.out.len h3
    ·rfl)
   clear HE
   go_wp2_with (first | ((with_reducible refine wpList_loadG sIns _ rfl ⟨w.heap.size, 0, none⟩ (xCs x P) ?_ ?_ ?_ ?_ ?_); exact rfl; exact rfl; exact HX.out.box.cells; exact rfl) | ((with_reducible refine wpList_storeL sIns rfl _ _ rfl (w.heap.size + 1) (xCs nilX nilP) (xCs x P) ?_ ?_ ?_ ?_ ?_ (xCs_one _ _) ?_); exact rfl; exact rfl; exact HX.out.res; exact rfl; exact rfl; intro wz k1 k2 k3 k4; have K := lib.h4 k1 k2 k3 k4; clear k1 k2 k3 k4))
   refine bodyPost_ret (v := .tuple #[.agg (xCs x P).toArray, .bool false]) (big.res_cell_tmp sIns Tryz.results39 rfl rfl (Blk.cells K.out.1) rfl) rfl ?_
   rw [HE2.out]
   exact HX.out.none_ K.out.2.2.2
  subst h3
  obtain ⟨y1, rfl⟩ : ∃ y1, T = [y1] := by
   have hl := HWA0.out.len
   match T, hl with
   | [y1], _ => exact ⟨y1, rfl⟩
  have HE : Hid (R = some (Lin.add x (.place ⟨y1.toArray⟩))) := Lib.hid HE.out
  have HCL : Hid (∀ v, Below W0.heap.size W0 v → v.cell? ⟨ad.block, ad.off + 1, none⟩ = some (.string ⟨y1.toArray⟩)) := Lib.hid (fun v hv => (hv.cell (p := ⟨ad.block, ad.off + 1, none⟩) hadb).trans (HCS.out 1 _ rfl))
  have hy1 := HWA0.out.sz y1 (by simp)
  have hsm : x.net.places.length ≤ 1000000 := by obtain ⟨s0, s1, s2, s3, s4, s5⟩ := HSM.out; assumption
  have hadw' : ad.block ≠ w.heap.size := by omega
  go_upto_region 5 with fail
  have hc1 := HCL.out W0 (Below.refl _ _)
  clear hc0
  (refine wp_region_held_drew (S := (fun v => v.cell? ⟨ad.block, ad.off + 1, none⟩ = some (.string ⟨y1.toArray⟩))) (by kernel_rfl) ?_ (fun hHeld => ?_))
  ·exact hc1
  have hbc := HX.out.box.cell (j := 0) rfl
  (refine lib.tk 0 rfl ?_; (try simp only [lib.hly]))
  (refine lib.tk 1 rfl ?_; (try simp only [lib.hly]))
  (refine lib.tk 3 rfl ?_; (try simp only [lib.hly]))
  (refine lib.tk 4 rfl ?_; (try simp only [lib.hly]))
  (refine lib.tk 5 rfl ?_; (try simp only [lib.hly]))
  refine wpAnyH_ready (rs := [2, 6]) (by kernel_rfl) (by simp) ?_
  refine AllReadyH.cons rfl (fun K hK => ?_) (AllReadyH.cons rfl (fun K hK => ?_) AllReadyH.nil)
  ·go_simp
   refine hK.out _ _ (hc1) (fun hHeld => ?_)
   clear hK K
   (try simp only [lib.hly])
   (refine lib.rk 6 rfl fun K hK => ?_)
   go_simp
   obtain ⟨W8, hW8⟩ : ∃ W, (W0.alloc (.cells #[.string ⟨y1.toArray⟩] 9)).drew = W := ⟨_, rfl⟩
   have hb8 : Below W0.heap.size W0 W8 := by rw [← hW8]; exact ((Below.refl _ _).alloc (Nat.le_refl _) _).drew
   have HA8 : Hid (∀ (j : Nat) (u : Value), [Value.string ⟨y1.toArray⟩][j]? = some u → W8.cell? ((⟨W0.heap.size, 0, none⟩ : Addr).add j) = some u) := Lib.hid (by rw [← hW8]; exact cell_one_new W0 _ _)
   have HX8 := Lib.hid (HX.out.below hb8)
   have HG8 := Lib.hid (HCL.out W8 hb8)
   rw [hW8]
   clear hW8 hb8
   refine hK.out _ _ (HG8.out) (fun hHeld => ?_)
   clear hK K
   (try simp only [lib.hly])
   obtain ⟨cs, hco, hce⟩ := HX8.out.rows.r0.ex
   have HCO := Lib.hid hco
   have HCE := Lib.hid hce
   clear hco hce
   (refine lib.rk 7 rfl fun K hK => ?_)
   refine step_app str_elem' _ _ rfl 0 P.a0 x.net.places.length P.c0 cs rfl HCO.out ⟨W0.heap.size, 0, none⟩ 1 [.string ⟨y1.toArray⟩] rfl rfl HA8.out (fun u hu => by rw [List.mem_singleton] at hu; rw [hu]; rfl) (by omega) (Nat.zero_le _) rfl ?_
   intro g9 c9 w9 hown9 hg9 hd9
   have hgi : W8.grownBy w9 (G 0) := by rw [HX8.out.rows.r0.own]; exact hg9
   have HB9 := Lib.hid (HX8.out.boxk 0 hgi)
   have hcc := HB9.out.cell (j := 0) rfl
   have hcf := HB9.out.frozen 0
   have hz8 := HX8.out.lt
   have HFI := Lib.hid (HX8.out.fin (i := 0) (g := g9) hgi (HX8.out.rows.add0 (s := ⟨y1.toArray⟩) (fun q hq => ⟨HX8.out.new q (by omega), by omega, by omega⟩) HCE.out ⟨rfl, by rw [arr_sz]; omega⟩ hown9 hg9 hd9) (by rw [HX8.out.rows.r0.own]; exact hd9) 0 (.slice (some ⟨g9, 0, none⟩) (x.net.places.length + 1) c9) (by simp [xCs, Lin.add]))
   have HG9 : Hid (w9.cell? ⟨ad.block, ad.off + 1, none⟩ = some (.string ⟨y1.toArray⟩)) := Lib.hid (hg9.cell (a := ⟨ad.block, ad.off + 1, none⟩) HG8.out (by rw [← HX8.out.rows.r0.own]; exact HNE.out 0))
   clear hown9 hg9 hd9 hgi
   refine hK.out _ _ (HG9.out) (fun hHeld => ?_)
   clear hK K
   (try simp only [lib.hly])
   (refine lib.tk 8 rfl ?_; (try simp only [lib.hly]))
   (refine lib.tk 9 rfl ?_; (try simp only [lib.hly]))
   (refine lib.rk 10 rfl fun K hK => ?_)
   go_simp
   obtain ⟨W9, hW9⟩ : ∃ W, w9.setCell ⟨w.heap.size, 0, none⟩ (.slice (some ⟨g9, 0, none⟩) (x.net.places.length + 1) c9) = W := ⟨_, rfl⟩
   have HG10 : Hid (W9.cell? ⟨ad.block, ad.off + 1, none⟩ = some (.string ⟨y1.toArray⟩)) := Lib.hid (by rw [← hW9]; exact (World.cell?_setCell_other w9 _ ⟨ad.block, ad.off + 1, none⟩ _ (fun e => by injection e with e; omega)).trans HG9.out)
   rw [hW9] at HFI ⊢
   clear hW9 hcc hcf
   refine hK.out _ _ (HG10.out) (fun hHeld => ?_)
   clear hK K
   (try simp only [lib.hly])
   (refine wpAnyH_done (by kernel_rfl) ?_ _)
   clear hHeld
   obtain ⟨x', hx'⟩ : ∃ x', R = some x' := ⟨_, HE.out⟩
   have HFX := Lib.hid (show ∃ P' G', RdE G Z x' w.heap.size w W9 P' G' by have h := HE.out.symm.trans hx'; obtain rfl := Option.some.inj h; exact ⟨_, _, HFI.out⟩)
   have HR' := Lib.hid hx'
   clear hx'
   obtain ⟨P', G', hfx⟩ := HFX.out
   have HFY := Lib.hid hfx
   clear hfx
   go_wp2_with (first | ((with_reducible refine wpList_loadG sIns _ rfl ⟨w.heap.size, 0, none⟩ (xCs x' P') ?_ ?_ ?_ ?_ ?_); exact rfl; exact rfl; exact HFY.out.box.cells; exact rfl) | ((with_reducible refine wpList_storeL sIns rfl _ _ rfl (w.heap.size + 1) (xCs nilX nilP) (xCs x' P') ?_ ?_ ?_ ?_ ?_ (xCs_one _ _) ?_); exact rfl; exact rfl; exact HFY.out.res; exact rfl; exact rfl; intro wz k1 k2 k3 k4; have K := lib.h4 k1 k2 k3 k4; clear k1 k2 k3 k4))
   refine bodyPost_ret (v := .tuple #[.agg (xCs x' P').toArray, .bool true]) (big.res_cell_tmp sIns Tryz.results39 rfl rfl (Blk.cells K.out.1) rfl) rfl ?_
   rw [HR'.out]
   exact HFY.out.out rfl K.out.2.1 K.out.2.2.1 K.out.2.2.2
  ·skip
   go_simp
   obtain ⟨W8, hW8⟩ : ∃ W, (W0.alloc (.cells #[.string ⟨y1.toArray⟩] 9)).drew = W := ⟨_, rfl⟩
   have hb8 : Below W0.heap.size W0 W8 := by rw [← hW8]; exact ((Below.refl _ _).alloc (Nat.le_refl _) _).drew
   have HA8 : Hid (∀ (j : Nat) (u : Value), [Value.string ⟨y1.toArray⟩][j]? = some u → W8.cell? ((⟨W0.heap.size, 0, none⟩ : Addr).add j) = some u) := Lib.hid (by rw [← hW8]; exact cell_one_new W0 _ _)
   have HX8 := Lib.hid (HX.out.below hb8)
   have HG8 := Lib.hid (HCL.out W8 hb8)
   rw [hW8]
   clear hW8 hb8
   refine hK.out _ _ (HG8.out) (fun hHeld => ?_)
   clear hK K
   (try simp only [lib.hly])
   have hb8c := HX8.out.box.cell (j := 0) rfl
   (refine lib.rk 2 rfl fun K hK => ?_)
   go_simp
   refine hK.out _ _ (HG8.out) (fun hHeld => ?_)
   clear hK K
   (try simp only [lib.hly])
   clear hb8c
   obtain ⟨cs, hco, hce⟩ := HX8.out.rows.r0.ex
   have HCO := Lib.hid hco
   have HCE := Lib.hid hce
   clear hco hce
   (refine lib.rk 7 rfl fun K hK => ?_)
   refine step_app str_elem' _ _ rfl 0 P.a0 x.net.places.length P.c0 cs rfl HCO.out ⟨W0.heap.size, 0, none⟩ 1 [.string ⟨y1.toArray⟩] rfl rfl HA8.out (fun u hu => by rw [List.mem_singleton] at hu; rw [hu]; rfl) (by omega) (Nat.zero_le _) rfl ?_
   intro g9 c9 w9 hown9 hg9 hd9
   have hgi : W8.grownBy w9 (G 0) := by rw [HX8.out.rows.r0.own]; exact hg9
   have HB9 := Lib.hid (HX8.out.boxk 0 hgi)
   have hcc := HB9.out.cell (j := 0) rfl
   have hcf := HB9.out.frozen 0
   have hz8 := HX8.out.lt
   have HFI := Lib.hid (HX8.out.fin (i := 0) (g := g9) hgi (HX8.out.rows.add0 (s := ⟨y1.toArray⟩) (fun q hq => ⟨HX8.out.new q (by omega), by omega, by omega⟩) HCE.out ⟨rfl, by rw [arr_sz]; omega⟩ hown9 hg9 hd9) (by rw [HX8.out.rows.r0.own]; exact hd9) 0 (.slice (some ⟨g9, 0, none⟩) (x.net.places.length + 1) c9) (by simp [xCs, Lin.add]))
   have HG9 : Hid (w9.cell? ⟨ad.block, ad.off + 1, none⟩ = some (.string ⟨y1.toArray⟩)) := Lib.hid (hg9.cell (a := ⟨ad.block, ad.off + 1, none⟩) HG8.out (by rw [← HX8.out.rows.r0.own]; exact HNE.out 0))
   clear hown9 hg9 hd9 hgi
   refine hK.out _ _ (HG9.out) (fun hHeld => ?_)
   clear hK K
   (try simp only [lib.hly])
   (refine lib.tk 8 rfl ?_; (try simp only [lib.hly]))
   (refine lib.tk 9 rfl ?_; (try simp only [lib.hly]))
   (refine lib.rk 10 rfl fun K hK => ?_)
   go_simp
   obtain ⟨W9, hW9⟩ : ∃ W, w9.setCell ⟨w.heap.size, 0, none⟩ (.slice (some ⟨g9, 0, none⟩) (x.net.places.length + 1) c9) = W := ⟨_, rfl⟩
   have HG10 : Hid (W9.cell? ⟨ad.block, ad.off + 1, none⟩ = some (.string ⟨y1.toArray⟩)) := Lib.hid (by rw [← hW9]; exact (World.cell?_setCell_other w9 _ ⟨ad.block, ad.off + 1, none⟩ _ (fun e => by injection e with e; omega)).trans HG9.out)
   rw [hW9] at HFI ⊢
   clear hW9 hcc hcf
   refine hK.out _ _ (HG10.out) (fun hHeld => ?_)
   clear hK K
   (try simp only [lib.hly])
   (refine wpAnyH_done (by kernel_rfl) ?_ _)
   clear hHeld
   obtain ⟨x', hx'⟩ : ∃ x', R = some x' := ⟨_, HE.out⟩
   have HFX := Lib.hid (show ∃ P' G', RdE G Z x' w.heap.size w W9 P' G' by have h := HE.out.symm.trans hx'; obtain rfl := Option.some.inj h; exact ⟨_, _, HFI.out⟩)
   have HR' := Lib.hid hx'
   clear hx'
   obtain ⟨P', G', hfx⟩ := HFX.out
   have HFY := Lib.hid hfx
   clear hfx
   go_wp2_with (first | ((with_reducible refine wpList_loadG sIns _ rfl ⟨w.heap.size, 0, none⟩ (xCs x' P') ?_ ?_ ?_ ?_ ?_); exact rfl; exact rfl; exact HFY.out.box.cells; exact rfl) | ((with_reducible refine wpList_storeL sIns rfl _ _ rfl (w.heap.size + 1) (xCs nilX nilP) (xCs x' P') ?_ ?_ ?_ ?_ ?_ (xCs_one _ _) ?_); exact rfl; exact rfl; exact HFY.out.res; exact rfl; exact rfl; intro wz k1 k2 k3 k4; have K := lib.h4 k1 k2 k3 k4; clear k1 k2 k3 k4))
   refine bodyPost_ret (v := .tuple #[.agg (xCs x' P').toArray, .bool true]) (big.res_cell_tmp sIns Tryz.results39 rfl rfl (Blk.cells K.out.1) rfl) rfl ?_
   rw [HR'.out]
   exact HFY.out.out rfl K.out.2.1 K.out.2.2.1 K.out.2.2.2
 have e1 : (y0 == [112, 108, 97, 99, 101]) = false := beq_eq_false_iff_ne.2 h1
 by_cases h2 : y0 = kwA
 ·have e2 : (y0 == [97, 114, 99]) = true := beq_iff_eq.2 h2
  have HE : Hid (R = arcX x (y0 :: T)) := Lib.hid (by rw [← HR.out, rdX_cons, if_neg h1, if_pos h2])
  clear h1 h2
  have HCO := Lib.hid (rarc_any G (Zn Z w.heap.size) x P (y0 :: T) (some ad) n d W0 HX.out.rows HZN.out HSM.out HWA0.out)
  go_wp2_with (first
   | ((with_reducible refine wpList_loadG sIns _ rfl ⟨w.heap.size, 0, none⟩ (xCs x P) ?_ ?_ ?_ ?_ ?_); exact rfl; exact rfl; exact HX.out.box.cells; exact rfl)
   | (go_at_call 72; refine HCO.out.mono ?_; intro e w5 ho; obtain ⟨yy, QQ, bb, rfl, hrs, hfin⟩ := HX.out.call ho; have HRS := Lib.hid hrs; have HFN := Lib.hid hfin; clear ho hrs hfin)
   | ((with_reducible refine wpList_storeL sIns rfl _ _ rfl (w.heap.size + 1) (xCs nilX nilP) (xCs yy QQ) ?_ ?_ ?_ ?_ ?_ (xCs_one _ _) ?_); exact rfl; exact rfl; exact HRS.out; exact rfl; exact rfl; intro wz k1 k2 k3 k4; have K := lib.h4 k1 k2 k3 k4; clear k1 k2 k3 k4))
  refine bodyPost_ret (v := .tuple #[.agg (xCs yy QQ).toArray, .bool bb]) (big.res_cell_tmp sIns Tryz.results39 rfl rfl (Blk.cells K.out.1) rfl) rfl ?_
  rw [HE.out]
  exact HFN.out _ K.out.2.1 K.out.2.2.1 K.out.2.2.2
 have e2 : (y0 == [97, 114, 99]) = false := beq_eq_false_iff_ne.2 h2
 by_cases h3 : y0 = kwT
 ·have e3 : (y0 == [116, 121, 112, 101]) = true := beq_iff_eq.2 h3
  have HE : Hid (R = typX x (y0 :: T)) := Lib.hid (by rw [← HR.out, rdX_cons, if_neg h1, if_neg h2, if_pos h3])
  clear h1 h2 h3
  have HCO := Lib.hid (rkindX_any G (Zn Z w.heap.size) x P (y0 :: T) (some ad) n d W0 HX.out.rows HZN.out HSM.out HWA0.out HFA0.out HOK.out)
  go_wp2_with (first
   | ((with_reducible refine wpList_loadG sIns _ rfl ⟨w.heap.size, 0, none⟩ (xCs x P) ?_ ?_ ?_ ?_ ?_); exact rfl; exact rfl; exact HX.out.box.cells; exact rfl)
   | (go_at_call 73; refine HCO.out.mono ?_; intro e w5 ho; obtain ⟨yy, QQ, bb, rfl, hrs, hfin⟩ := HX.out.call ho; have HRS := Lib.hid hrs; have HFN := Lib.hid hfin; clear ho hrs hfin)
   | ((with_reducible refine wpList_storeL sIns rfl _ _ rfl (w.heap.size + 1) (xCs nilX nilP) (xCs yy QQ) ?_ ?_ ?_ ?_ ?_ (xCs_one _ _) ?_); exact rfl; exact rfl; exact HRS.out; exact rfl; exact rfl; intro wz k1 k2 k3 k4; have K := lib.h4 k1 k2 k3 k4; clear k1 k2 k3 k4))
  refine bodyPost_ret (v := .tuple #[.agg (xCs yy QQ).toArray, .bool bb]) (big.res_cell_tmp sIns Tryz.results39 rfl rfl (Blk.cells K.out.1) rfl) rfl ?_
  rw [HE.out]
  exact HFN.out _ K.out.2.1 K.out.2.2.1 K.out.2.2.2
 have e3 : (y0 == [116, 121, 112, 101]) = false := beq_eq_false_iff_ne.2 h3
 by_cases h4 : y0 = kwO
 ·have e4 : (y0 == [111, 114, 100, 101, 114]) = true := beq_iff_eq.2 h4
  have HE : Hid (R = ordX x (y0 :: T)) := Lib.hid (by rw [← HR.out, rdX_cons, if_neg h1, if_neg h2, if_neg h3, if_pos h4])
  clear h1 h2 h3 h4
  have HCO := Lib.hid (rorderX_any G (Zn Z w.heap.size) x P (y0 :: T) (some ad) n d W0 HX.out.rows HZN.out HSM.out HWA0.out HFA0.out HOK.out)
  go_wp2_with (first
   | ((with_reducible refine wpList_loadG sIns _ rfl ⟨w.heap.size, 0, none⟩ (xCs x P) ?_ ?_ ?_ ?_ ?_); exact rfl; exact rfl; exact HX.out.box.cells; exact rfl)
   | (go_at_call 74; refine HCO.out.mono ?_; intro e w5 ho; obtain ⟨yy, QQ, bb, rfl, hrs, hfin⟩ := HX.out.call ho; have HRS := Lib.hid hrs; have HFN := Lib.hid hfin; clear ho hrs hfin)
   | ((with_reducible refine wpList_storeL sIns rfl _ _ rfl (w.heap.size + 1) (xCs nilX nilP) (xCs yy QQ) ?_ ?_ ?_ ?_ ?_ (xCs_one _ _) ?_); exact rfl; exact rfl; exact HRS.out; exact rfl; exact rfl; intro wz k1 k2 k3 k4; have K := lib.h4 k1 k2 k3 k4; clear k1 k2 k3 k4))
  refine bodyPost_ret (v := .tuple #[.agg (xCs yy QQ).toArray, .bool bb]) (big.res_cell_tmp sIns Tryz.results39 rfl rfl (Blk.cells K.out.1) rfl) rfl ?_
  rw [HE.out]
  exact HFN.out _ K.out.2.1 K.out.2.2.1 K.out.2.2.2
 have e4 : (y0 == [111, 114, 100, 101, 114]) = false := beq_eq_false_iff_ne.2 h4
 by_cases h5 : y0 = kwE
 ·have e5 : (y0 == [101, 110, 100]) = true := beq_iff_eq.2 h5
  have HE : Hid (R = finX x T) := Lib.hid (by rw [← HR.out, rdX_cons, if_neg h1, if_neg h2, if_neg h3, if_neg h4, if_pos h5])
  clear h1 h2 h3 h4 h5
  by_cases h6 : n = 1
  ·have h6b : ((n : Int) == 1) = true := beq_iff_eq.2 (by omega)
   have HE2 : Hid (R = some x) := Lib.hid (by
    have hl := HWA0.out.len
    rw [h6] at hl
    have ht : T = [] := List.eq_nil_of_length_eq_zero (by rw [List.length_cons] at hl; omega)
    rw [HE.out, ht]
    rfl)
   clear h6
   go_wp2_with (first | ((with_reducible refine wpList_loadG sIns _ rfl ⟨w.heap.size, 0, none⟩ (xCs x P) ?_ ?_ ?_ ?_ ?_); exact rfl; exact rfl; exact HX.out.box.cells; exact rfl) | ((with_reducible refine wpList_storeL sIns rfl _ _ rfl (w.heap.size + 1) (xCs nilX nilP) (xCs x P) ?_ ?_ ?_ ?_ ?_ (xCs_one _ _) ?_); exact rfl; exact rfl; exact HX.out.res; exact rfl; exact rfl; intro wz k1 k2 k3 k4; have K := lib.h4 k1 k2 k3 k4; clear k1 k2 k3 k4))
   refine bodyPost_ret (v := .tuple #[.agg (xCs x P).toArray, .bool true]) (big.res_cell_tmp sIns Tryz.results39 rfl (by simp [h6b]) (Blk.cells K.out.1) rfl) rfl ?_
   rw [HE2.out]
   exact HX.out.same K.out.2.1 K.out.2.2.1 K.out.2.2.2
  ·have h6b : ((n : Int) == 1) = false := beq_eq_false_iff_ne.2 (by omega)
   have HE2 : Hid (R = none) := Lib.hid (by
    rw [HE.out]
    unfold finX
    split
    ·exact absurd HWA0.out.len h6
    ·rfl)
   clear h6
   go_wp2_with (first | ((with_reducible refine wpList_loadG sIns _ rfl ⟨w.heap.size, 0, none⟩ (xCs x P) ?_ ?_ ?_ ?_ ?_); exact rfl; exact rfl; exact HX.out.box.cells; exact rfl) | ((with_reducible refine wpList_storeL sIns rfl _ _ rfl (w.heap.size + 1) (xCs nilX nilP) (xCs x P) ?_ ?_ ?_ ?_ ?_ (xCs_one _ _) ?_); exact rfl; exact rfl; exact HX.out.res; exact rfl; exact rfl; intro wz k1 k2 k3 k4; have K := lib.h4 k1 k2 k3 k4; clear k1 k2 k3 k4))
   refine bodyPost_ret (v := .tuple #[.agg (xCs x P).toArray, .bool false]) (big.res_cell_tmp sIns Tryz.results39 rfl (by simp [h6b]) (Blk.cells K.out.1) rfl) rfl ?_
   rw [HE2.out]
   exact HX.out.none_ K.out.2.2.2
 have e5 : (y0 == [101, 110, 100]) = false := beq_eq_false_iff_ne.2 h5
 have HE : Hid (R = pairX x (y0 :: T)) := Lib.hid (by rw [← HR.out, rdX_cons, if_neg h1, if_neg h2, if_neg h3, if_neg h4, if_neg h5])
 clear h1 h2 h3 h4 h5
 have HCO := Lib.hid (rpair_any G (Zn Z w.heap.size) x P (y0 :: T) (some ad) n d W0 HX.out.rows HZN.out HSM.out HWA0.out)
 go_wp2_with (first
  | ((with_reducible refine wpList_loadG sIns _ rfl ⟨w.heap.size, 0, none⟩ (xCs x P) ?_ ?_ ?_ ?_ ?_); exact rfl; exact rfl; exact HX.out.box.cells; exact rfl)
  | (go_at_call 75; refine HCO.out.mono ?_; intro e w5 ho; obtain ⟨yy, QQ, bb, rfl, hrs, hfin⟩ := HX.out.call ho; have HRS := Lib.hid hrs; have HFN := Lib.hid hfin; clear ho hrs hfin)
  | ((with_reducible refine wpList_storeL sIns rfl _ _ rfl (w.heap.size + 1) (xCs nilX nilP) (xCs yy QQ) ?_ ?_ ?_ ?_ ?_ (xCs_one _ _) ?_); exact rfl; exact rfl; exact HRS.out; exact rfl; exact rfl; intro wz k1 k2 k3 k4; have K := lib.h4 k1 k2 k3 k4; clear k1 k2 k3 k4))
 refine bodyPost_ret (v := .tuple #[.agg (xCs yy QQ).toArray, .bool bb]) (big.res_cell_tmp sIns Tryz.results39 rfl rfl (Blk.cells K.out.1) rfl) rfl ?_
 rw [HE.out]
 exact HFN.out _ K.out.2.1 K.out.2.2.1 K.out.2.2.2
end Go.Proofs.YthefooacfcagbaaGreatDoor.spc

/- The reference's bare words. -/
namespace Go.Proofs.YthefooacfcagbaaGreatDoor.spc
open Go.RowKit
open lib rd app els typ big gen off
open txt (in64 By strV strV_of)
set_option linter.unusedVariables false
set_option linter.unusedSimpArgs false
def bareB (W : List By) : Bool := decide (W ≠ []) && W.all fun y => decide (y.head? ≠ some 34)
theorem bare_hit {W : List By} {k : Nat} {y : By} (h : W[k]? = some y) (hy : y.head? = some 34) : bareB W = false := by
 unfold bareB
 rw [Bool.and_eq_false_iff]
 refine .inr (List.all_eq_false.2 ⟨y, List.mem_of_getElem? h, ?_⟩)
 simp [hy]
theorem bare_all {W : List By} (h : ∀ y ∈ W, y.head? ≠ some 34) : bareB W = decide (0 < W.length) := by
 have h1 : (W.all fun y => decide (y.head? ≠ some 34)) = true := List.all_eq_true.2 fun y hy => decide_eq_true (h y hy)
 unfold bareB
 rw [h1, Bool.and_true, Bool.eq_iff_iff, decide_eq_true_eq, decide_eq_true_eq]
 exact List.length_pos_iff.symm
theorem bare_true {W : List By} (h : bareB W = true) : W ≠ [] ∧ ∀ y ∈ W, y.head? ≠ some 34 := by
 unfold bareB at h
 rw [Bool.and_eq_true, decide_eq_true_eq, List.all_eq_true] at h
 exact ⟨h.1, fun y hy => of_decide_eq_true (h.2 y hy)⟩
set_option maxRecDepth 20000 in
set_option maxHeartbeats 2000000 in
theorem rbare_any (W : List By) (A : Option Addr) (n d : Nat) (w : World) (hW : WAt w A n d W) (hne : ∀ y ∈ W, y ≠ []) :
  Calls Tryz.prog 37 #[.slice A n d] w fun e w' => e = .returned (.bool (bareB W)) ∧ w = w' := by
 obtain ⟨R, hR⟩ : ∃ R, bareB W = R := ⟨_, rfl⟩
 have HR := Lib.hid hR
 have HW := Lib.hid hW
 have HNE := Lib.hid hne
 have hlo := hW.lo
 rw [hR]
 clear hR hW hne
 go_enter Tryz.func37, Tryz.ntmps37
 go_upto_region 2 with fail
 go_loopw [3] (fun i wr => wr = w ∧ ∃ k : Nat, k ≤ n ∧ i = .int .i64 k ∧ Hid (∀ y ∈ W.take k, y.head? ≠ some 34)) (fun i _ => n - (intOf i).toNat)
 case atStart => exact ⟨rfl, 0, Nat.zero_le _, rfl, Lib.hid (fun y hy => by simp at hy)⟩
 case round =>
  obtain ⟨rfl, k, hk, rfl, hpre⟩ := hrel
  by_cases hlt : k < n
  ·obtain ⟨ad, u, hA, hadb, hu, hcell⟩ := HW.out.rd.at_ hlt
   obtain ⟨y, hy⟩ : ∃ y, W[k]? = some y := ⟨_, List.getElem?_eq_getElem (by rw [← HW.out.len]; exact hlt)⟩
   rw [List.getElem?_map, hy] at hu
   obtain rfl := Option.some.inj hu
   subst hA
   obtain ⟨c, r, hyc⟩ : ∃ c r, y = c :: r := by
    cases y with
    | nil => exact absurd rfl (HNE.out [] (List.mem_of_getElem? hy))
    | cons c r => exact ⟨c, r, rfl⟩
   obtain ⟨ys, hys⟩ : ∃ ys : ByteArray, ⟨y.toArray⟩ = ys := ⟨_, rfl⟩
   have hz : 0 < ys.size := by rw [← hys, arr_sz, hyc]; simp
   have hz' : (0 : Int) < (ys.size : Int) := by omega
   have hc : ys[0] = c := by
    have hyl : ys.data.toList = c :: r := by rw [← hys, arr_list, hyc]
    have h1 := txt.at_data ys 0 hz
    rw [hyl] at h1
    exact (Option.some.inj h1).symm
   have hcell2 : wr.cell? (ad.add k) = some (.string ys) := by rw [← hys]; exact hcell
   have HY := Lib.hid hy
   have HYC := Lib.hid hyc
   have hk0 : (0 : Int) ≤ (k : Int) := by omega
   have hkn : (k : Int) < (n : Int) := by omega
   clear hcell hy hyc hys
   by_cases h34 : c = 34
   ·have hcb : ((c.toNat : Int) == 34) = true := by rw [h34]; rfl
    have HE : Hid (R = false) := Lib.hid (by rw [← HR.out]; exact bare_hit HY.out (by rw [HYC.out, h34]; rfl))
    clear h34
    go_wp2
    go_ret
    exact ⟨by rw [HE.out]; rfl, rfl⟩
   ·have hcb : ((c.toNat : Int) == 34) = false := beq_eq_false_iff_ne.2 (fun e => h34 (by apply UInt8.toNat_inj.1; have : (34 : UInt8).toNat = 34 := rfl; omega))
    have HP : Hid (∀ y ∈ W.take (k + 1), y.head? ≠ some 34) := Lib.hid (fun z hz => by
     rw [List.take_add_one, HY.out, Option.toList_some, List.mem_append, List.mem_singleton] at hz
     rcases hz with hz | rfl
     ·exact hpre.out z hz
     ·rw [HYC.out]
      intro e
      exact h34 (Option.some.inj e))
    clear h34
    go_wp2
    go_roundw
    case rel => exact ⟨trivial, k + 1, by omega, by go_num, HP⟩
    case measure => simp [intOf]; omega
  ·have hkn : ¬ (k : Int) < (n : Int) := by omega
   have hke : k = n := by omega
   have HE : Hid (R = decide (0 < n)) := Lib.hid (by
    have h := hpre.out
    rw [hke, List.take_of_length_le (by rw [← HW.out.len]; exact Nat.le_refl _)] at h
    rw [← HR.out, bare_all h, HW.out.len])
   clear hke
   go_wp2
   go_ret
   exact ⟨ret_bool (by rw [HE.out]), rfl⟩
end Go.Proofs.YthefooacfcagbaaGreatDoor.spc

/- The reference's Parse. -/
namespace Go.Proofs.YthefooacfcagbaaGreatDoor.spc
open Go.RowKit
open lib rd app els typ big gen off
open ins (InP InAt InV)
open flt (Fown FltsOut)
open txt (in64 By strV strV_of WordsOk WdOwn rwordsO_any joinS)
set_option linter.unusedVariables false
set_option linter.unusedSimpArgs false
def LSt (L : List By) (i last : Nat) (x : Ins) (R : Option Ins × Nat) : Prop :=
 (last < 7 ∧ R = prsP (L.drop i) (i + 1) last x) ∨ (last = 7 ∧ R = (if L.drop i = [[]] then (some x, 0) else (none, i + 1)))
theorem drop_two {L : List By} {i : Nat} (h : i + 1 < L.length) : ∃ l m ls, L[i]? = some l ∧ L.drop i = l :: m :: ls ∧ L.drop (i + 1) = m :: ls := by
 obtain ⟨l, hl⟩ : ∃ l, L[i]? = some l := ⟨_, List.getElem?_eq_getElem (by omega)⟩
 obtain ⟨m, hm⟩ : ∃ l, L[i + 1]? = some l := ⟨_, List.getElem?_eq_getElem h⟩
 have e1 : L.drop i = l :: L.drop (i + 1) := by
  obtain ⟨h1, h2⟩ := List.getElem?_eq_some_iff.1 hl
  rw [← List.getElem_cons_drop h1, h2]
 have e2 : L.drop (i + 1) = m :: L.drop (i + 1 + 1) := by
  obtain ⟨h1, h2⟩ := List.getElem?_eq_some_iff.1 hm
  rw [← List.getElem_cons_drop h1, h2]
 exact ⟨l, m, _, hl, by rw [e1, e2], e2⟩
section
variable {L : List By} {i last : Nat} {x : Ins} {R : Option Ins × Nat} {l : By}
theorem LSt.full (h : LSt L i last x R) (hi : i + 1 < L.length) (h7 : last = 7) : R = (none, i + 1) := by
 obtain ⟨l, m, ls, -, e, -⟩ := drop_two hi
 rcases h with ⟨h1, _⟩ | ⟨_, h2⟩
 ·omega
 ·rw [h2, e, if_neg (by simp)]
theorem LSt.bad (h : LSt L i last x R) (hi : i + 1 < L.length) (hl : L[i]? = some l) (hr : rowO l = none) : R = (none, i + 1) := by
 rcases h with ⟨h1, h2⟩ | ⟨h1, h2⟩
 ·obtain ⟨l', m, ls, hl', e, -⟩ := drop_two hi
  rw [hl] at hl'
  obtain rfl := Option.some.inj hl'
  rw [h2, e, prsP, hr]
 ·exact LSt.full (.inr ⟨h1, h2⟩) hi h1
theorem LSt.low (h : LSt L i last x R) (hi : i + 1 < L.length) (hl : L[i]? = some l) {r : Lin} (hr : rowO l = some r) (hk : r.rank < last) : R = (none, i + 1) := by
 rcases h with ⟨h1, h2⟩ | ⟨h1, h2⟩
 ·obtain ⟨l', m, ls, hl', e, -⟩ := drop_two hi
  rw [hl] at hl'
  obtain rfl := Option.some.inj hl'
  rw [h2, e, prsP, hr]
  dsimp only
  rw [if_pos hk]
 ·exact LSt.full (.inr ⟨h1, h2⟩) hi h1
theorem LSt.next (h : LSt L i last x R) (hi : i + 1 < L.length) (hl : L[i]? = some l) {r : Lin} (hr : rowO l = some r) (hk : ¬ r.rank < last) (h7 : last ≠ 7) : LSt L (i + 1) r.rank (r.add x) R := by
 rcases h with ⟨h1, h2⟩ | ⟨h1, _⟩
 ·obtain ⟨l', m, ls, hl', e, e2⟩ := drop_two hi
  rw [hl] at hl'
  obtain rfl := Option.some.inj hl'
  have hrk := rank_le r
  by_cases hr7 : r.rank = 7
  ·refine .inr ⟨hr7, ?_⟩
   have hf := fin_rank hr7
   rw [h2, e, prsP, hr]
   dsimp only
   rw [if_neg hk, if_pos hr7, e2, hf]
   rfl
  ·refine .inl ⟨by omega, ?_⟩
   rw [h2, e, prsP, hr]
   dsimp only
   rw [if_neg hk, if_neg hr7, e2]
 ·exact absurd h1 h7
theorem drop_one {m : By} (hi : i + 1 = L.length) (hm : L[i]? = some m) : L.drop i = [m] := by
 obtain ⟨h1, h2⟩ := List.getElem?_eq_some_iff.1 hm
 rw [← List.getElem_cons_drop h1, h2, List.drop_of_length_le (by omega)]
theorem LSt.stop (h : LSt L i last x R) {m : By} (hi : i + 1 = L.length) (hm : L[i]? = some m) (hb : last ≠ 7 ∨ m ≠ []) : R = (none, i + 1) := by
 rcases h with ⟨h1, h2⟩ | ⟨h1, h2⟩
 ·rw [h2, drop_one hi hm, prsP]
 ·have hm2 := hb.resolve_left (fun e => e h1)
  rw [h2, drop_one hi hm, if_neg (by simpa using hm2)]
theorem LSt.done (h : LSt L i last x R) (hi : i + 1 = L.length) (hm : L[i]? = some []) (h7 : last = 7) : R = (some x, 0) := by
 rcases h with ⟨h1, _⟩ | ⟨_, h2⟩
 ·omega
 ·rw [h2, drop_one hi hm, if_pos rfl]
end
theorem row_of_words {l : By} {W : List By} {r : Lin} (hw : WordsOk l (some W)) (hne : W ≠ []) (hr : r.ok) (e : W = r.words) : rowO l = some r := by
 rcases hw.join W rfl with ⟨_, h2⟩ | ⟨h1, _⟩
 ·exact rowO_of ⟨by rw [h2, e], hr⟩
 ·exact absurd h1 hne
theorem row_no {l : By} {o : Option (List By)} (hw : WordsOk l o) (hno : ∀ r : Lin, r.ok → o ≠ some r.words) : rowO l = none := rowO_none fun r h => hno r h.2 (LineOk.words hw h)
theorem part_ne {y : By} (h : txt.partB y) : y ≠ [] := fun e => by
 rw [e] at h
 rcases h with h | h
 ·exact absurd h (by decide)
 ·cases h
theorem part_word {y : By} (h : txt.partB y) (h34 : y.head? ≠ some 34) : txt.wordB y = true := h.resolve_right h34
theorem XvOut.uni {G : Nat → Option Nat} {Z : Nat → Prop} {o : Option Ins} {w w' : World} {e : Ending} (h : XvOut G Z o w e w') : ∃ (y : Ins) (Q : InP) (b : Bool) (G' : Nat → Option Nat), e = .returned (.tuple #[.agg (xCs y Q).toArray, .bool b]) ∧ XKeep G w w' ∧ GSub G w G' ∧ Hid ((b = true → o = some y ∧ XG G' w' Z y Q) ∧ (b = false → o = none)) := by
 rcases h with ⟨x', P', G', rfl, rfl, hX, hk, hs⟩ | ⟨rfl, hb, y, Q, rfl⟩
 ·exact ⟨x', P', true, G', rfl, hk, hs, Lib.hid ⟨fun _ => ⟨rfl, hX⟩, fun e => (by cases e)⟩⟩
 ·exact ⟨y, Q, false, G, rfl, XKeep.of_below hb, GSub.refl G w, Lib.hid ⟨fun e => (by cases e), fun _ => rfl⟩⟩
theorem bare_words {r : Lin} (h : r.ok) : bareB r.words = true := by
 unfold bareB
 rw [Bool.and_eq_true, decide_eq_true_eq, List.all_eq_true]
 exact ⟨words_ne r, fun y hy => decide_eq_true (word_free (words_word h y hy))⟩
set_option maxRecDepth 20000 in
set_option maxHeartbeats 8000000 in
theorem rparse_any (F : Ins → List Flt) (s : By) (hs : s.length ≤ 1000000) (w : World)
  (HC : ∀ (x : Ins) (Q : InP) (w' : World), prsP (splt 10 s) 1 0 nilX = (some x, 0) → Below w.heap.size w w' → InAt w' w'.heap.size x Q → Calls Tryz.prog 24 #[InV x Q] w' (FltsOut w' (F x))) :
  Calls Tryz.prog 13 #[.string ⟨s.toArray⟩] w (ParOut w (parF F s)) := by
 obtain ⟨R, hR⟩ : ∃ R, parF F s = R := ⟨_, rfl⟩
 have HR := Lib.hid hR
 have HCH := Lib.hid HC
 rw [hR]
 clear hR HC
 obtain ⟨w0, hw0⟩ : ∃ W, w.alloc (.cells (xCs nilX nilP).toArray 30) = W := ⟨_, rfl⟩
 have HW0 := Lib.hid (show w.alloc (.cells #[.slice none 0 0, .slice none 0 0, .slice none 0 0, .slice none 0 0, .slice none 0 0, .slice none 0 0] 30) = w0 from hw0)
 have HB0 : Hid (Blk w0 w.heap.size 30 (xCs nilX nilP)) := Lib.hid (by rw [← hw0]; exact Blk.new w _ _)
 have HL0 : Hid (Below w.heap.size w w0) := Lib.hid (by rw [← hw0]; exact (Below.refl _ _).alloc (Nat.le_refl _) _)
 obtain ⟨n0, hn0⟩ : ∃ n, s.length = n := ⟨_, rfl⟩
 have HN0 := Lib.hid hn0
 have hsz : (⟨s.toArray⟩ : ByteArray).size = n0 := by rw [← hn0]; simp [ByteArray.size]
 have HPO : Hid (∀ (wz : World), R.1 = nilX → Below w.heap.size w wz → ParOut w R (.returned (.tuple #[InV nilX nilP, .int .i64 R.2.1, .int .i64 R.2.2])) wz) := Lib.hid (fun wz h1 hb => ⟨nilP, by rw [h1], by rw [h1]; exact nilX_at wz, hb⟩)
 clear hw0
 go_enter Tryz.func13, Tryz.ntmps13
 go_upto_region 1 with fail
 rw [HW0.out]
 clear HW0
 have hz0 := HB0.out.lt
 by_cases hbig : 65536 < n0
 ·have hbi : (65536 : Int) < (n0 : Int) := by omega
  have HE : Hid (R = (nilX, 0, 4)) := Lib.hid (by rw [← HR.out, parF_big (by rw [HN0.out]; exact hbig)])
  clear hn0
  go_wp2_with ((with_reducible refine wpList_storeL sIns rfl _ _ rfl (w.heap.size) (xCs nilX nilP) (xCs nilX nilP) ?_ ?_ ?_ ?_ ?_ (xCs_one _ _) ?_); exact rfl; exact rfl; exact HB0.out; exact rfl; exact rfl; intro wz k1 k2 k3 k4; have K := lib.h4 k1 k2 k3 k4; clear k1 k2 k3 k4)
  refine bodyPost_ret (v := .tuple #[.agg (xCs nilX nilP).toArray, .int .i64 (0), .int .i64 (4)]) (res_cell_two sIns Tryz.results13 rfl rfl rfl (Blk.cells K.out.1) rfl) rfl ?_
  have h := HPO.out wz (by rw [HE.out]) ((HL0.out).trans K.out.2.2.2)
  rw [HE.out] at h ⊢
  exact h
 have hbi : ¬ (65536 : Int) < (n0 : Int) := by omega
 have HNB : Hid (¬ 65536 < s.length) := Lib.hid (by rw [hn0]; exact hbig)
 clear hn0
 obtain ⟨xb, hxb⟩ : ∃ xb, w0.heap.size = xb := ⟨_, rfl⟩
 obtain ⟨wa, hwa⟩ : ∃ W, w0.alloc (.cells (xCs nilX nilP).toArray 30) = W := ⟨_, rfl⟩
 have HWA := Lib.hid (show w0.alloc (.cells #[.slice none 0 0, .slice none 0 0, .slice none 0 0, .slice none 0 0, .slice none 0 0, .slice none 0 0] 30) = wa from hwa)
 have HBXa : Hid (Blk wa xb 30 (xCs nilX nilP)) := Lib.hid (by rw [← hwa, ← hxb]; exact Blk.new w0 _ _)
 have HBHa : Hid (Blk wa w.heap.size 30 (xCs nilX nilP)) := Lib.hid (by rw [← hwa]; exact HB0.out.kept (World.grownBy_alloc _ _ none) (by simp))
 have HLa : Hid (Below w.heap.size w wa) := Lib.hid (by rw [← hwa]; exact HL0.out.alloc (by omega) _)
 have hxz : w.heap.size < xb := by omega
 have hxa : xb < wa.heap.size := HBXa.out.lt
 obtain ⟨L, hL⟩ : ∃ L, splt 10 s = L := ⟨_, rfl⟩
 have HLL := Lib.hid hL
 have HLZ : Hid (∀ y ∈ L, y.length ≤ 65536) := Lib.hid (fun y hy => by have := (splt_len 10 s).2 y (by rw [hL]; exact hy); have := HNB.out; omega)
 have HLN : Hid (L.length ≤ 65537 ∧ L ≠ []) := Lib.hid (by
  have h1 := (splt_len 10 s).1
  have h2 := List.count_le_length (a := 10) (l := s)
  have h3 := HNB.out
  rw [hL] at h1
  exact ⟨by omega, by rw [← hL]; exact splt_ne 10 s⟩)
 have HP := Lib.hid (rpartsL_any s 10 hs wa)
 rw [hL] at HP HCH
 have HXBE := Lib.hid hxb
 clear hL hwa hxb
 go_upto_region 7 with (go_at_call 35; rw [HWA.out]; refine HP.out.mono ?_; rintro e w1 ⟨A, n, d, hn, rfl, ho, hb⟩; have HN := Lib.hid hn; have HO := Lib.hid ho; have HL1 := Lib.hid (HLa.out.trans (hb.mono HLa.out.size)); have HBX1 := Lib.hid (HBXa.out.below hb); have HBH1 := Lib.hid (HBHa.out.below hb); have hz1 := hb.size; clear hn ho hb)
 rw [HXBE.out]
 clear HP HWA
 have hnb : n ≤ 65537 := by rw [HN.out]; exact HLN.out.1
 have hnp : 0 < n := by rw [HN.out]; exact List.length_pos_iff.2 HLN.out.2
 obtain ⟨PR, hPR⟩ : ∃ PR, prsP L 1 0 nilX = PR := ⟨_, rfl⟩
 have HPR := Lib.hid hPR
 rw [hPR] at HCH
 have HNO : Hid (∀ k, PR = (none, k) → R = (nilX, (k : Int), 3)) := Lib.hid (fun k e => by rw [← HR.out, parF_none HNB.out (n := k) (by rw [HLL.out, HPR.out, e])])
 have HS0 : Hid (LSt L 0 0 nilX PR) := Lib.hid (.inl ⟨by decide, by rw [← HPR.out]; rfl⟩)
 clear hPR
 go_loopw [7, 8, 9, 10, 11, 12, 13] (fun lv iv _ _ _ _ _ wr => w1.grownBy wr (some xb) ∧ ∃ (i last : Nat) (x : Ins) (P : InP) (G : Nat → Option Nat), lv = .int .i64 last ∧ iv = .int .i64 i ∧ i < n ∧ last ≤ 7 ∧ Hid (LSt L i last x PR) ∧ Hid ((rowsI x).length ≤ i) ∧ Hid (XG G wr (fun q => w1.heap.size ≤ q) x P ∧ Blk wr xb 30 (xCs x P))) (fun _ i _ _ _ _ _ _ => n - (intOf i).toNat)
 case atStart => exact ⟨World.grownBy.refl _ _, 0, 0, nilX, nilP, fun _ => none, rfl, rfl, hnp, by omega, HS0, Lib.hid (by decide), Lib.hid ⟨XG.start _ _, HBX1.out⟩⟩
 case round =>
  obtain ⟨hg, i, last, x, P, G, rfl, rfl, hin, hl7, hst, hrw, hxg⟩ := hrel
  clear HS0
  have HG := Lib.hid hg
  have HLr : Hid (Below w.heap.size w wr) := Lib.hid (HL1.out.trans (below_grown hg (by have := HL1.out.size; exact this) (by omega)))
  have HBHr : Hid (Blk wr w.heap.size 30 (xCs nilX nilP)) := Lib.hid (HBH1.out.kept hg (by intro e; injection e with e; omega))
  have hgz := hg.size
  obtain ⟨l, hl⟩ : ∃ l, L[i]? = some l := ⟨_, List.getElem?_eq_getElem (by rw [← HN.out]; exact hin)⟩
  have HLI := Lib.hid hl
  have hlz := HLZ.out l (List.mem_of_getElem? hl)
  obtain ⟨ga, ca, hv, hga, hgaz⟩ := HO.out.form hnp
  injection hv with e1 e2 e3
  subst e1
  have hcell : wr.cell? ⟨ga, i, none⟩ = some (.string ⟨l.toArray⟩) := by
   have h1 := HO.out.cellAt i (by omega)
   rw [List.getElem?_map, hl] at h1
   exact hg.cell (a := ⟨ga, i, none⟩) h1 (by intro e; injection e with e; have e2 : ga = xb := e; omega)
  have hi0 : (0 : Int) ≤ (i : Int) := by omega
  have hini : (i : Int) < (n : Int) := by omega
  have HCELL := Lib.hid hcell
  clear e2 e3 hl hg
  by_cases hlt : i + 1 < n
  rotate_left
  ·have hlti : ¬ (i : Int) + 1 < (n : Int) := by omega
   have HIN : Hid (i + 1 = L.length) := Lib.hid (by rw [← HN.out]; omega)
   have hni : (n : Int) - 1 = (i : Int) := by omega
   have hw1 : IntKind.i64.wrap ((n : Int) - 1) = (i : Int) := by rw [IntWalk.i64_in _ (by omega)]; omega
   by_cases hbad : last ≠ 7 ∨ l ≠ []
   ·have HE : Hid (R = (nilX, (n : Int), 3)) := Lib.hid (by
     have h := HNO.out _ (hst.out.stop HIN.out HLI.out hbad)
     rw [h, HIN.out, HN.out])
    clear hlt
    by_cases h7 : last = 7
    ·have hln : l ≠ [] := hbad.resolve_left (fun e => e h7)
     have h7b : ((last : Int) != 7) = false := by rw [h7]; rfl
     have hle : (l == []) = false := beq_eq_false_iff_ne.2 hln
     have hle2 : (l != []) = true := by rw [bne, hle]; rfl
     have hle3 : l.isEmpty = false := by cases l with | nil => exact absurd rfl hln | cons a b => rfl
     clear hbad
     go_wp2_with ((with_reducible refine wpList_storeL sIns rfl _ _ rfl (w.heap.size) (xCs nilX nilP) (xCs nilX nilP) ?_ ?_ ?_ ?_ ?_ (xCs_one _ _) ?_); exact rfl; exact rfl; exact HBHr.out; exact rfl; exact rfl; intro wz k1 k2 k3 k4; have K := lib.h4 k1 k2 k3 k4; clear k1 k2 k3 k4)
     refine bodyPost_ret (v := .tuple #[.agg (xCs nilX nilP).toArray, .int .i64 (n), .int .i64 (3)]) (res_cell_two sIns Tryz.results13 rfl rfl rfl (Blk.cells K.out.1) rfl) rfl ?_
     have h := HPO.out wz (by rw [HE.out]) ((HLr.out).trans K.out.2.2.2)
     rw [HE.out] at h ⊢
     exact h
    ·have h7i : ¬ (last : Int) = 7 := by omega
     have h7b : ((last : Int) != 7) = true := by simpa using h7i
     clear hbad
     go_wp2_with ((with_reducible refine wpList_storeL sIns rfl _ _ rfl (w.heap.size) (xCs nilX nilP) (xCs nilX nilP) ?_ ?_ ?_ ?_ ?_ (xCs_one _ _) ?_); exact rfl; exact rfl; exact HBHr.out; exact rfl; exact rfl; intro wz k1 k2 k3 k4; have K := lib.h4 k1 k2 k3 k4; clear k1 k2 k3 k4)
     refine bodyPost_ret (v := .tuple #[.agg (xCs nilX nilP).toArray, .int .i64 (n), .int .i64 (3)]) (res_cell_two sIns Tryz.results13 rfl rfl rfl (Blk.cells K.out.1) rfl) rfl ?_
     have h := HPO.out wz (by rw [HE.out]) ((HLr.out).trans K.out.2.2.2)
     rw [HE.out] at h ⊢
     exact h
   ·have h7 : last = 7 := Decidable.not_not.1 fun h => hbad (.inl h)
    have hln : l = [] := Decidable.not_not.1 fun h => hbad (.inr h)
    subst h7 hln
    have HDN : Hid (PR = (some x, 0)) := Lib.hid (hst.out.done HIN.out HLI.out rfl)
    have HSM := Lib.hid (sm_of (x := x) (by have := hrw.out; omega))
    have HCC := Lib.hid (HCH.out x P wr HDN.out HLr.out (hxg.out.1.at_ HSM.out))
    clear hbad hlt
    go_wp2_with ((with_reducible refine wpList_loadG sIns _ rfl ⟨xb, 0, none⟩ (xCs x P) ?_ ?_ ?_ ?_ ?_); exact rfl; exact rfl; exact hxg.out.2.cells; exact rfl)
    refine HCC.out.mono ?_
    rintro e w5 ⟨Af, cf, rfl, hownF, b5⟩
    have HB5 := Lib.hid (HBHr.out.below b5)
    have HW5 := Lib.hid (HLr.out.trans (b5.mono HLr.out.size))
    have HXG5 := Lib.hid (hxg.out.1.below b5)
    have HXK5 := Lib.hid (hxg.out.2.below b5)
    clear b5
    cases hF : F x
    case nil =>
     have HE : Hid (R = (x, 0, 0)) := Lib.hid (by rw [← HR.out, parF_ok HNB.out (by rw [HLL.out, HPR.out]; exact HDN.out) hF])
     clear hF hownF
     go_wp2_with (first
      | ((with_reducible refine wpList_loadG sIns _ rfl ⟨xb, 0, none⟩ (xCs x P) ?_ ?_ ?_ ?_ ?_); exact rfl; exact rfl; exact HXK5.out.cells; exact rfl)
      | ((with_reducible refine wpList_storeL sIns rfl _ _ rfl (w.heap.size) (xCs nilX nilP) (xCs x P) ?_ ?_ ?_ ?_ ?_ (xCs_one _ _) ?_); exact rfl; exact rfl; exact HB5.out; exact rfl; exact rfl; intro wz k1 k2 k3 k4; have K := lib.h4 k1 k2 k3 k4; clear k1 k2 k3 k4))
     refine bodyPost_ret (v := .tuple #[.agg (xCs x P).toArray, .int .i64 0, .int .i64 0]) (res_cell_two sIns Tryz.results13 rfl rfl rfl (Blk.cells K.out.1) rfl) rfl ?_
     rw [HE.out]
     obtain ⟨k1, k2, k3, k4⟩ := K.out
     have hz1' := HL1.out.size
     exact ⟨P, rfl, (HXG5.out.keep (Z' := fun q => w1.heap.size ≤ q) (Nat.le_of_eq k3.symm) fun q hq hz => ⟨hz, k2 q (by have hz' : w1.heap.size ≤ q := hz; omega)⟩).at_ HSM.out, HW5.out.trans k4⟩
    case cons f fs =>
     have HE : Hid (R = (nilX, 0, f.err)) := Lib.hid (by rw [← HR.out, parF_bad HNB.out (by rw [HLL.out, HPR.out]; exact HDN.out) hF])
     rw [hF] at hownF
     obtain ⟨g, hg1, hg2, hg3⟩ := net.flt_place hownF
     obtain ⟨hgA, hgs⟩ := hg2 (by simp)
     obtain ⟨g0, -⟩ := hg3 0 f rfl
     subst hgA
     have gl : (0 : Int) < (fs.length : Int) + 1 := by omega
     have q0 : w5.cell? ⟨g, 0, none⟩ = some (.int .i64 f.err) := by simpa using g0
     have hgne : g ≠ w.heap.size := by have := hgs; have := HBHr.out.lt; omega
     clear hF hownF hg2 hg3 g0
     go_upto_region 22 with fail
     (refine wp_region_held_drew (S := (fun w' => w'.cell? ⟨g, 0, none⟩ = some (.int .i64 f.err))) (by kernel_rfl) ?_ (fun hHeld => ?_))
     ·exact q0
     (refine lib.tk 0 rfl ?_; (try simp only [lib.hly]))
     (refine lib.tk 1 rfl ?_; (try simp only [lib.hly]))
     (refine lib.tk 2 rfl ?_; (try simp only [lib.hly]))
     (refine lib.tk 3 rfl ?_; (try simp only [lib.hly]))
     (refine lib.tk 4 rfl ?_; (try simp only [lib.hly]))
     (refine lib.rk 5 rfl fun K hK => ?_)
     refine step_storeL sIns rfl _ _ rfl w.heap.size (xCs nilX nilP) (xCs nilX nilP) rfl rfl HB5.out rfl rfl (xCs_one _ _) ?_
     intro w6 k1 k2 k3 k4
     have q3 : w6.cell? ⟨g, 0, none⟩ = some (.int .i64 f.err) := (World.cell?_of_block (a := ⟨g, 0, none⟩) (k2 g hgne)).trans q0
     have HK6 := Lib.hid (show Blk w6 w.heap.size 30 (xCs nilX nilP) from k1)
     have HW6 := Lib.hid (HW5.out.trans (((Below.refl w.heap.size w5).drew).trans k4))
     clear k1 k2 k3 k4
     refine hK.out _ _ (q3) (fun hHeld => ?_)
     clear hK K
     (try simp only [lib.hly])
     (refine lib.tk 6 rfl ?_; (try simp only [lib.hly]))
     (refine lib.tk 7 rfl ?_; (try simp only [lib.hly]))
     (refine wpAnyH_done (by kernel_rfl) ?_ _)
     clear q0 q3 hHeld
     go_wp2
     refine bodyPost_ret (v := .tuple #[.agg (xCs nilX nilP).toArray, .int .i64 0, .int .i64 f.err]) (res_cell_two sIns Tryz.results13 rfl rfl rfl (Blk.cells HK6.out) rfl) rfl ?_
     have h := HPO.out w6 (by rw [HE.out]) HW6.out
     rw [HE.out] at h ⊢
     exact h
  have hlti : (i : Int) + 1 < (n : Int) := by omega
  have HLT : Hid (i + 1 < L.length) := Lib.hid (by rw [← HN.out]; exact hlt)
  have hwd := rwordsO_any ⟨l.toArray⟩ (by rw [arr_sz]; omega) wr
  rw [arr_list] at hwd
  have HWD := Lib.hid hwd
  clear hwd
  go_upto_region 10 with (go_at_call 36; refine HWD.out.mono ?_; rintro e w2 ⟨hb2, ⟨rfl, hwo⟩ | ⟨W, AW, cW, rfl, hwo, hWc, hWo, hWl⟩⟩)
  ·have HE : Hid (R = (nilX, ((i + 1 : Nat) : Int), 3)) := Lib.hid (HNO.out _ (hst.out.bad HLT.out HLI.out (row_no hwo fun r hr e => by cases e)))
   have HB2 := Lib.hid (HBHr.out.below hb2)
   have HL2 := Lib.hid (HLr.out.trans (hb2.mono HLr.out.size))
   clear hb2 hwo HWD hcell
   go_wp2_with ((with_reducible refine wpList_storeL sIns rfl _ _ rfl (w.heap.size) (xCs nilX nilP) (xCs nilX nilP) ?_ ?_ ?_ ?_ ?_ (xCs_one _ _) ?_); exact rfl; exact rfl; exact HB2.out; exact rfl; exact rfl; intro wz k1 k2 k3 k4; have K := lib.h4 k1 k2 k3 k4; clear k1 k2 k3 k4)
   refine bodyPost_ret (v := .tuple #[.agg (xCs nilX nilP).toArray, .int .i64 (((i + 1 : Nat) : Int)), .int .i64 (3)]) (res_cell_two sIns Tryz.results13 rfl rfl rfl (Blk.cells K.out.1) rfl) rfl ?_
   have h := HPO.out wz (by rw [HE.out]) ((HL2.out).trans K.out.2.2.2)
   rw [HE.out] at h ⊢
   exact h
  have HB2 := Lib.hid (HBHr.out.below hb2)
  have HL2 := Lib.hid (HLr.out.trans (hb2.mono HLr.out.size))
  have HX2 := Lib.hid (And.intro (hxg.out.1.below hb2) (hxg.out.2.below hb2))
  have HG2 := Lib.hid (HG.out.trans (grown_below hb2 : wr.grownBy w2 (some xb)))
  have HWO := Lib.hid hwo
  have hz2 := hb2.size
  have HWT : Hid (WAt w2 AW W.length cW W) := Lib.hid ⟨rfl, hWc, by omega, Reads.of_own hWo, fun y hy => by
   rcases hwo.join W rfl with ⟨h1, h2⟩ | ⟨h1, h2⟩
   ·have := len_join hy
    rw [← h2] at this
    omega
   ·rw [h1] at hy
    cases hy⟩
  have HOW := Lib.hid hWo
  have HBR := Lib.hid (rbare_any W AW W.length cW w2 HWT.out (fun y hy => part_ne (hwo.parts W rfl y hy)))
  obtain ⟨m, hm⟩ : ∃ m, W.length = m := ⟨_, rfl⟩
  have HM := Lib.hid hm
  rw [hm] at HBR HWT HOW ⊢
  obtain ⟨bw, hbw⟩ : ∃ bw, bareB W = bw := ⟨_, rfl⟩
  have HBW := Lib.hid hbw
  rw [hbw] at HBR
  clear hb2 hwo HWD hWc hWo hWl hm hbw hcell
  cases bw
  case false =>
   have HE : Hid (R = (nilX, ((i + 1 : Nat) : Int), 3)) := Lib.hid (HNO.out _ (hst.out.bad HLT.out HLI.out (row_no HWO.out fun r hr e => by
    have e2 := Option.some.inj e
    have := HBW.out
    rw [e2, bare_words hr] at this
    cases this)))
   go_wp2_with (first
    | (go_at_call 37; refine HBR.out.mono ?_; rintro e w3 ⟨rfl, rfl⟩)
    | ((with_reducible refine wpList_storeL sIns rfl _ _ rfl (w.heap.size) (xCs nilX nilP) (xCs nilX nilP) ?_ ?_ ?_ ?_ ?_ (xCs_one _ _) ?_); exact rfl; exact rfl; exact HB2.out; exact rfl; exact rfl; intro wz k1 k2 k3 k4; have K := lib.h4 k1 k2 k3 k4; clear k1 k2 k3 k4))
   refine bodyPost_ret (v := .tuple #[.agg (xCs nilX nilP).toArray, .int .i64 (((i + 1 : Nat) : Int)), .int .i64 (3)]) (res_cell_two sIns Tryz.results13 rfl rfl rfl (Blk.cells K.out.1) rfl) rfl ?_
   have h := HPO.out wz (by rw [HE.out]) ((HL2.out).trans K.out.2.2.2)
   rw [HE.out] at h ⊢
   exact h
  obtain ⟨hWne, hW34⟩ := bare_true HBW.out
  have hwb : ∀ y ∈ W, txt.wordB y = true := fun y hy => part_word (HWO.out.parts W rfl y hy) (hW34 y hy)
  obtain ⟨y0, T, rfl⟩ : ∃ y0 T, W = y0 :: T := by
   cases W with
   | nil => exact absurd rfl hWne
   | cons a b => exact ⟨a, b, rfl⟩
  have HWB := Lib.hid hwb
  have hm0 : 0 < m := by rw [← HM.out]; simp
  obtain ⟨gw, c2, hv, hgw, hgwz⟩ := HOW.out.form hm0
  injection hv with e1 e2 e3
  subst e1
  have hcw : w2.cell? ⟨gw, 0, none⟩ = some (.string ⟨y0.toArray⟩) := HOW.out.cellAt 0 (by omega)
  have hm0i : (0 : Int) < (m : Int) := by omega
  have HRK := Lib.hid (rrank_any y0 w2)
  obtain ⟨k, hk⟩ : ∃ k, rankF y0 = k := ⟨_, rfl⟩
  have HK := Lib.hid hk
  rw [hk] at HRK
  clear e2 e3 hWne hW34 hwb hk
  go_upto_region 13 with (first
   | (go_at_call 37; refine HBR.out.mono ?_; rintro e w3 ⟨rfl, rfl⟩)
   | (go_at_call 38; refine HRK.out.mono ?_; rintro e w4 ⟨rfl, b4⟩))
  have HB4 := Lib.hid (HB2.out.below b4)
  have HL4 := Lib.hid (HL2.out.trans (b4.mono HL2.out.size))
  have HX4 := Lib.hid (And.intro (HX2.out.1.below b4) (HX2.out.2.below b4))
  have HG4 := Lib.hid (HG2.out.trans (grown_below b4 : w2.grownBy w4 (some xb)))
  have hz4 := b4.size
  have HSM := Lib.hid (sm_of (x := x) (by have := hrw.out; omega))
  have HRD := Lib.hid (rread_any G (fun q => w1.heap.size ≤ q) x P y0 T (some ⟨gw, 0, none⟩) m cW w4 HX4.out.1 (fun q hq => by show w1.heap.size ≤ q; omega) HSM.out (HWT.out.below b4) (fun ad e => by
   obtain rfl := Option.some.inj e
   exact ⟨Nat.lt_of_lt_of_le hgwz b4.size, fun j e => by have := hxg.out.1.ok.lt j gw e.symm; omega⟩) HWB.out)
  clear b4 hcw HBR HRK
  go_upto_region 14 with (first
   | ((with_reducible refine wpList_loadG sIns _ rfl ⟨xb, 0, none⟩ (xCs x P) ?_ ?_ ?_ ?_ ?_); exact rfl; exact rfl; exact HX4.out.2.cells; exact rfl)
   | (go_at_call 39; refine HRD.out.mono ?_; intro e w5 ho; obtain ⟨yy, QQ, bb, G', rfl, hkp, hsub, huni⟩ := ho.uni; clear ho)
   | ((with_reducible refine wpList_storeL sIns rfl _ _ rfl (w5.heap.size) (xCs nilX nilP) (xCs yy QQ) ?_ ?_ ?_ ?_ ?_ (xCs_one _ _) ?_); exact rfl; exact rfl; exact Blk.new w5 _ _; exact rfl; exact rfl; intro wz k1 k2 k3 k4; have K := lib.h4 k1 k2 k3 k4; clear k1 k2 k3 k4))
  obtain ⟨k1, k2, k3, k4⟩ := K.out
  have b6 : Below w5.heap.size w5 wz := ((Below.refl _ _).alloc (Nat.le_refl _) _).trans k4
  have hz5 := hkp.size
  have hfar : ∀ q, q < w1.heap.size → ∀ j, G j ≠ some q := fun q hq j e => by
   have h1 : w1.heap.size ≤ q := HX4.out.1.ok.zone j q e
   omega
  have HG5 : Hid (w4.grownBy w5 (some xb) → w1.grownBy wz (some xb)) := Lib.hid (fun h => (HG4.out.trans h).trans (grown_below b6 : w5.grownBy wz (some xb)))
  have hg6 : w1.grownBy wz (some xb) := ⟨(b6.os.trans hkp.os).trans HG4.out.os, (b6.tape.trans hkp.tape).trans HG4.out.tape, (b6.output.trans hkp.output).trans HG4.out.output, Nat.le_trans (Nat.le_trans HG4.out.size hz5) b6.size, fun q hq hne => ((b6.block q (by have := HG4.out.size; omega)).trans (hkp.block q (by have := HG4.out.size; omega) (hfar q hq))).trans (HG4.out.block q hq hne)⟩
  have HG6 := Lib.hid hg6
  have HB6 := Lib.hid (HBH1.out.kept hg6 (by intro e; injection e with e; omega))
  have HL6 : Hid (Below w.heap.size w wz) := Lib.hid (HL1.out.trans (below_grown hg6 (by have := HL1.out.size; exact this) (by omega)))
  have HXB6 : Hid (Blk wz xb 30 (xCs x P)) := Lib.hid ((b6.block xb (by have := HX4.out.2.lt; omega)).trans ((hkp.block xb HX4.out.2.lt (hfar xb (by omega))).trans HX4.out.2))
  obtain ⟨nb, hnb'⟩ : ∃ nb, w5.heap.size = nb := ⟨_, rfl⟩
  have HNBK : Hid (Blk wz nb 30 (xCs yy QQ)) := Lib.hid (by rw [← hnb']; exact k1)
  have hnz : w1.heap.size ≤ nb := by have := HG4.out.size; omega
  have HUN : Hid ((bb = true → rdX x (y0 :: T) = some yy ∧ XG G' wz (fun q => w1.heap.size ≤ q) yy QQ) ∧ (bb = false → rdX x (y0 :: T) = none)) := Lib.hid ⟨fun e => ⟨(huni.out.1 e).1, (huni.out.1 e).2.below b6⟩, huni.out.2⟩
  rw [hnb']
  clear K k1 k2 k3 k4 b6 hz5 hfar HG5 hg6 hnb' hkp hsub huni
  have HBD : Hid (k = 0 ∨ k < last ∨ last = 7 ∨ bb = false → R = (nilX, ((i + 1 : Nat) : Int), 3)) := Lib.hid (fun hb => HNO.out _ (by
   by_cases h7 : last = 7
   ·exact hst.out.full HLT.out h7
   by_cases hbb : bb = false
   ·exact hst.out.bad HLT.out HLI.out (row_no HWO.out fun r hr e => rd_none (HUN.out.2 hbb) r hr (Option.some.inj e))
   by_cases hk0 : k = 0
   ·exact hst.out.bad HLT.out HLI.out (row_no HWO.out fun r hr e => rank0 (by rw [HK.out, hk0]) r (Option.some.inj e))
   ·have hbt : bb = true := by cases bb <;> simp_all
    obtain ⟨r, h1, h2, h3⟩ := rd_some HWB.out HWT.out.sz (HUN.out.1 hbt).1 (by rw [HK.out]; exact hk0)
    have hrk := rank_kw r y0 T h2.symm
    have hlow : k < last := by
     rcases hb with h | h | h | h
     ·exact absurd h hk0
     ·exact h
     ·exact absurd h h7
     ·exact absurd h hbb
    exact hst.out.low HLT.out HLI.out (row_of_words HWO.out (by simp) h1 h2) (by rw [← hrk, HK.out]; exact hlow)))
  go_cut [70] (fun v wx => v = .bool (decide (k = 0 ∨ k < last ∨ last = 7 ∨ bb = false)) ∧ wz = wx)
  case first =>
   by_cases hk0 : k = 0
   ·have e1 : ((k : Int) == 0) = true := beq_iff_eq.2 (by omega)
    have hd : decide (k = 0 ∨ k < last ∨ last = 7 ∨ bb = false) = true := decide_eq_true (.inl hk0)
    have HD := Lib.hid hd
    clear hd hk0
    go_wp2
    go_meet
    exact ⟨by rw [HD.out], rfl⟩
   have e1 : ((k : Int) == 0) = false := beq_eq_false_iff_ne.2 (by omega)
   by_cases hkl : k < last
   ·have e2 : (k : Int) < (last : Int) := by omega
    have hd : decide (k = 0 ∨ k < last ∨ last = 7 ∨ bb = false) = true := decide_eq_true (.inr (.inl hkl))
    have HD := Lib.hid hd
    clear hd hk0 hkl
    go_wp2
    go_meet
    exact ⟨by rw [HD.out], rfl⟩
   have e2 : ¬ (k : Int) < (last : Int) := by omega
   by_cases h7 : last = 7
   ·have e3 : ((last : Int) == 7) = true := beq_iff_eq.2 (by omega)
    have hd : decide (k = 0 ∨ k < last ∨ last = 7 ∨ bb = false) = true := decide_eq_true (.inr (.inr (.inl h7)))
    have HD := Lib.hid hd
    clear hd hk0 hkl h7
    go_wp2
    go_meet
    exact ⟨by rw [HD.out], rfl⟩
   have e3 : ((last : Int) == 7) = false := beq_eq_false_iff_ne.2 (by omega)
   cases bb
   ·have hd : decide (k = 0 ∨ k < last ∨ last = 7 ∨ false = false) = true := decide_eq_true (.inr (.inr (.inr rfl)))
    have HD := Lib.hid hd
    clear hd hk0 hkl h7
    go_wp2
    go_meet
    exact ⟨by rw [HD.out], rfl⟩
   ·have hd : decide (k = 0 ∨ k < last ∨ last = 7 ∨ true = false) = false := decide_eq_false (by rintro (h | h | h | h) <;> first | omega | cases h)
    have HD := Lib.hid hd
    clear hd hk0 hkl h7
    go_wp2
    go_meet
    exact ⟨by rw [HD.out], rfl⟩
  obtain ⟨hu, rfl⟩ := hcut
  by_cases hbd : k = 0 ∨ k < last ∨ last = 7 ∨ bb = false
  ·rw [decide_eq_true hbd] at hu
   subst hu
   have HE := Lib.hid (HBD.out hbd)
   clear hbd
   obtain ⟨wy, hwy⟩ : ∃ wy, wz = wy := ⟨_, rfl⟩
   rw [hwy] at HB6 HL6 ⊢
   clear hwy
   go_wp2_with ((with_reducible refine wpList_storeL sIns rfl _ _ rfl (w.heap.size) (xCs nilX nilP) (xCs nilX nilP) ?_ ?_ ?_ ?_ ?_ (xCs_one _ _) ?_); exact rfl; exact rfl; exact HB6.out; exact rfl; exact rfl; intro wz k1 k2 k3 k4; have K := lib.h4 k1 k2 k3 k4; clear k1 k2 k3 k4)
   refine bodyPost_ret (v := .tuple #[.agg (xCs nilX nilP).toArray, .int .i64 (((i + 1 : Nat) : Int)), .int .i64 (3)]) (res_cell_two sIns Tryz.results13 rfl rfl rfl (Blk.cells K.out.1) rfl) rfl ?_
   have h := HPO.out wz (by rw [HE.out]) ((HL6.out).trans K.out.2.2.2)
   rw [HE.out] at h ⊢
   exact h
  rw [decide_eq_false hbd] at hu
  subst hu
  have hbt : bb = true := by cases bb <;> simp_all
  subst hbt
  have hk0 : k ≠ 0 := fun e => hbd (.inl e)
  have hkl : ¬ k < last := fun e => hbd (.inr (.inl e))
  have h7 : last ≠ 7 := fun e => hbd (.inr (.inr (.inl e)))
  obtain ⟨r, h1, h2, h3⟩ := rd_some HWB.out HWT.out.sz (HUN.out.1 rfl).1 (by rw [HK.out]; exact hk0)
  have hrk := rank_kw r y0 T h2.symm
  rw [HK.out] at hrk
  have HNX := Lib.hid (hst.out.next HLT.out HLI.out (row_of_words HWO.out (by simp) h1 h2) (by rw [← hrk]; exact hkl) h7)
  rw [← hrk, ← h3] at HNX
  have HRW : Hid ((rowsI yy).length ≤ i + 1) := Lib.hid (by rw [h3]; have := rows_add x r; have := hrw.out; omega)
  have hk7 : k ≤ 7 := by have := (rank_le r).2; omega
  have HXG6 := Lib.hid (HUN.out.1 rfl).2
  obtain ⟨wy, hwy⟩ : ∃ wy, wz = wy := ⟨_, rfl⟩
  rw [hwy] at HB6 HL6 HG6 HXB6 HNBK HXG6 ⊢
  clear hwy hbd hk0 hkl h7 h1 h2 h3 hrk HBD HUN
  go_wp2_with (first
   | ((with_reducible refine wpList_loadG sIns _ rfl ⟨nb, 0, none⟩ (xCs yy QQ) ?_ ?_ ?_ ?_ ?_); exact rfl; exact rfl; exact HNBK.out.cells; exact rfl)
   | ((with_reducible refine wpList_storeL sIns rfl _ _ rfl (xb) (xCs x P) (xCs yy QQ) ?_ ?_ ?_ ?_ ?_ (xCs_one _ _) ?_); exact rfl; exact rfl; exact HXB6.out; exact rfl; exact rfl; intro wz k1 k2 k3 k4; have K := lib.h4 k1 k2 k3 k4; clear k1 k2 k3 k4))
  go_roundw
  case rel =>
   obtain ⟨k1, k2, k3, k4⟩ := K.out
   exact ⟨⟨k4.os.trans HG6.out.os, k4.tape.trans HG6.out.tape, k4.output.trans HG6.out.output, Nat.le_trans HG6.out.size k4.size, fun q hq hne => (k2 q (fun e => hne (by rw [e]))).trans (HG6.out.block q hq hne)⟩, i + 1, k, yy, QQ, G', rfl, by go_num, hlt, hk7, HNX, HRW, Lib.hid ⟨HXG6.out.keep (Nat.le_of_eq k3.symm) fun q hq hz => ⟨hz, k2 q (by have hz' : w1.heap.size ≤ q := hz; omega)⟩, k1⟩⟩
  case measure => simp [intOf]; omega
end Go.Proofs.YthefooacfcagbaaGreatDoor.spc
