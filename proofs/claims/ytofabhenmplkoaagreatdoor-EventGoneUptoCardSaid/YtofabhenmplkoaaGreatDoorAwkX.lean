/- awake of the laws of events: the event, the line and the instance that it tries. -/
import Derived.Test.YtofabhenmplkoaaGreatDoorPrsX
import Derived.Test.YtofabhenmplkoaaGreatDoorEvtX
import Derived.Test.YtofabhenmplkoaaGreatDoorStrX
import Derived.Test.YtofabhenmplkoaaGreatDoorGenX
import Derived.Test.YtofabhenmplkoaaGreatDoorCards
import Derived.Test.YtofabhenmplkoaaGreatDoorTie
import Derived.WalkKit
import Derived.ProofKit
import Derived.OpenShut
import Derived.Deep.DeepHandedRow
import Derived.Shelf.Spec.TrailingZeros
import Derived.Lay
import Derived.MakeChecks
import Derived.Stop.LaidErr
import Derived.Lib.LaidTab
set_option linter.unusedVariables false
set_option linter.unusedSimpArgs false
namespace Go.Proofs.YtofabhenmplkoaaGreatDoor.evt
open Go.RowKit
open lib rd app els typ big ins ord
open gen hiding zOrd bOrd
open txt (in64 By strV strV_of joinS decW decW_any Tabs elem_str nameB name_any yA Strs numL number_any own_cap WordsOk WdOut words_any)
def freshO : Ord := ⟨⟨#[110, 101, 119]⟩, [2], ⟨-1, 0, 0, 0⟩, ⟨3, 10, 90, 4⟩, 0, 50, 1, -1, -1, false⟩
def freshE : Evt := ⟨5, 1, 0, 0, 0, freshO⟩
def freshS : By := [111, 114, 100, 101, 114, 32, 53, 32, 110, 101, 119, 32, 49, 32, 50, 32, 45, 49, 32, 48, 32, 48, 32, 48, 32, 51, 32, 49, 48, 32, 57, 48, 32, 52, 32, 48, 32, 53, 48, 32, 49, 32, 45, 49, 32, 45, 49]
def brkS : By := [98, 114, 101, 97, 107, 32, 55, 32, 48]
def brkE : Evt := ⟨7, 4, 0, 0, 0, ordO⟩
def vanE : Ty := ⟨⟨#[118, 97, 110]⟩, 2, 0, 0, [5], 0, 0, 0, 100, 50, 0, 0, 0, 0⟩
def awkI : Ins := ⟨⟨[⟨#[104, 117, 98]⟩], []⟩, [vanE], [], [], []⟩
theorem dec1 {u : Nat} (h : u < 10) : Lib.decDigits u = [UInt8.ofNat (48 + u)] := Lib.decDigits_one h
theorem dec2 {u : Nat} (h : 10 ≤ u) (h2 : u < 100) : Lib.decDigits u = [UInt8.ofNat (48 + u / 10), UInt8.ofNat (48 + u % 10)] := by
 rw [Lib.decDigits, dif_neg (by omega), dec1 (by omega)]
 rfl
theorem fresh_parts : joinS (partsF freshE) = freshS := by
 have e : partsF freshE = [[111, 114, 100, 101, 114], Lib.itoa 5, [110, 101, 119], Lib.itoa 1, Lib.itoa 2, Lib.itoa (-1), Lib.itoa 0, Lib.itoa 0, Lib.itoa 0, Lib.itoa 3, Lib.itoa 10, Lib.itoa 90, Lib.itoa 4, Lib.itoa 0, Lib.itoa 50, Lib.itoa 1, Lib.itoa (-1), Lib.itoa (-1)] := rfl
 have i0 : Lib.itoa 0 = [48] := by show Lib.decDigits 0 = _; rw [dec1 (by decide)]; rfl
 have i1 : Lib.itoa 1 = [49] := by show Lib.decDigits 1 = _; rw [dec1 (by decide)]; rfl
 have i2 : Lib.itoa 2 = [50] := by show Lib.decDigits 2 = _; rw [dec1 (by decide)]; rfl
 have i3 : Lib.itoa 3 = [51] := by show Lib.decDigits 3 = _; rw [dec1 (by decide)]; rfl
 have i4 : Lib.itoa 4 = [52] := by show Lib.decDigits 4 = _; rw [dec1 (by decide)]; rfl
 have i5 : Lib.itoa 5 = [53] := by show Lib.decDigits 5 = _; rw [dec1 (by decide)]; rfl
 have i10 : Lib.itoa 10 = [49, 48] := by show Lib.decDigits 10 = _; rw [dec2 (by decide) (by decide)]; rfl
 have i50 : Lib.itoa 50 = [53, 48] := by show Lib.decDigits 50 = _; rw [dec2 (by decide) (by decide)]; rfl
 have i90 : Lib.itoa 90 = [57, 48] := by show Lib.decDigits 90 = _; rw [dec2 (by decide) (by decide)]; rfl
 have im : Lib.itoa (-1) = [45, 49] := by show 45 :: Lib.decDigits 1 = _; rw [dec1 (by decide)]; rfl
 rw [e, i0, i1, i2, i3, i4, i5, i10, i50, i90, im]
 rfl
theorem brk_parts : joinS (partsF brkE) = brkS := by
 have e : partsF brkE = [[98, 114, 101, 97, 107], Lib.itoa 7, Lib.itoa 0] := rfl
 have i0 : Lib.itoa 0 = [48] := by show Lib.decDigits 0 = _; rw [dec1 (by decide)]; rfl
 have i7 : Lib.itoa 7 = [55] := by show Lib.decDigits 7 = _; rw [dec1 (by decide)]; rfl
 rw [e, i0, i7]
 rfl
theorem fresh_prt : prtE freshE = 0 ∧ prtS freshE = freshS := by
 have h : prtE freshE = 0 := by kernel_rfl
 refine ⟨h, ?_⟩
 unfold prtS
 rw [if_pos h, fresh_parts]
theorem fresh_64 : Evt64 freshE := by
 refine ⟨?_, fun x hx => ?_⟩
 ·unfold yN yL StpFits freshE freshO
  decide
 ·have h : x = 2 := by simpa [freshE, freshO] using hx
  subst h
  exact ⟨by decide, by decide⟩
theorem brk_line : LineOf brkS brkE := by
 refine ⟨?_, brk_parts, ⟨?_, fun x hx => by cases hx⟩, by decide⟩
 ·unfold prtE yP
  simp [brkE, blank_O]
 ·unfold yN yL StpFits brkE ordO stpO
  decide
theorem awk_ok : insF awkI = [] := by kernel_rfl
theorem awk_app : appF awkI brkE = ({ awkI with types := [{ vanE with count := 1 }] }, 0) := by
 have h0 : alwF 0 brkE = 0 := by
  unfold alwF yP
  simp [brkE, blank_O, tkB]
 unfold appF
 rw [if_neg (not_not_intro h0)]
 rfl
theorem awk_chk : chkF awkI 8 brkE = 32 := by
 have h0 : alwF 8 brkE = 32 := by
  unfold alwF
  simp [brkE, tkB]
 unfold chkF
 rw [if_pos (by rw [h0]; decide), h0]
theorem fresh_fill2 (A : Option Addr) : Instr.fill ((#[(0, 1), (1, 1), (2, 1), (3, 1), (4, 1), (5, 16)] : Array (Nat × Nat))[·]?) (Value.agg (z8 zE none 0).toArray).cells [(0, .int .i64 5), (1, .int .i64 1), (5, .agg (zA freshO A 1).toArray)] = some (z8 freshE A 1).toArray := by kernel_rfl
set_option maxRecDepth 20000 in
set_option maxHeartbeats 4000000 in
theorem fresh_any (w : World) : Calls Tryz.prog 44 #[] w fun en w' => ∃ C c, en = .returned (.tuple #[.agg (z8 freshE C c).toArray, .string ⟨freshS.toArray⟩]) ∧ Below w.heap.size w w' ∧ Ints w' w'.heap.size C [2] := by
 obtain ⟨W0, hW0⟩ : ∃ W0, w.alloc (.cells (z8 zE none 0).toArray 37) = W0 := ⟨_, rfl⟩
 have hB0 : Below w.heap.size w W0 := by rw [← hW0]; exact (Below.refl _ _).alloc (Nat.le_refl _) _
 have z0 : W0.heap.size = w.heap.size + 1 := by rw [← hW0]; simp
 have b0 : Blk W0 w.heap.size 37 (z8 zE none 0) := by rw [← hW0]; exact Blk.new w _ _
 have HR0 := Lib.hid b0
 have HB0 := Lib.hid hB0
 have HW0 := Lib.hid (show w.alloc (.cells #[.int .i64 0, .int .i64 0, .int .i64 0, .int .i64 0, .int .i64 0, .string ⟨#[]⟩, .slice none 0 0, .int .i64 0, .int .i64 0, .int .i64 0, .int .i64 0, .int .i64 0, .int .i64 0, .int .i64 0, .int .i64 0, .int .i64 0, .int .i64 0, .int .i64 0, .int .i64 0, .int .i64 0, .bool false] 37) = W0 from hW0)
 clear b0 hB0 hW0
 go_enter Tryz.func44, Tryz.ntmps44
 go_upto_region 1 with fail
 rw [HW0.out]
 clear HW0
 go_upto_region 2 with fail
 obtain ⟨w2, hw2⟩ : ∃ W, (W0.alloc (.cells #[.int .i64 2] 3)).alloc (.cells (zA freshO (some ⟨w.heap.size + 1, 0, none⟩) 1).toArray 35) = W := ⟨_, rfl⟩
 have hw2' : (W0.alloc (.cells #[.int .i64 2] 3)).alloc (.cells #[.string ⟨#[110, 101, 119]⟩, .slice (some ⟨w.heap.size + 1, 0, none⟩) 1 1, .int .i64 (-1), .int .i64 0, .int .i64 0, .int .i64 0, .int .i64 3, .int .i64 10, .int .i64 90, .int .i64 4, .int .i64 0, .int .i64 50, .int .i64 1, .int .i64 (-1), .int .i64 (-1), .bool false] 35) = w2 := hw2
 rw [hw2']
 have b01 : Below W0.heap.size W0 (W0.alloc (.cells #[.int .i64 2] 3)) := (Below.refl _ _).alloc (Nat.le_refl _) _
 have hz1 : (W0.alloc (.cells #[.int .i64 2] 3)).heap.size = w.heap.size + 2 := by simp [z0]
 have b12 : Below (w.heap.size + 2) (W0.alloc (.cells #[.int .i64 2] 3)) w2 := by rw [← hw2]; exact (Below.refl _ _).alloc (by omega) _
 have HQ : Hid (Blk w2 (w.heap.size + 1 + 1) 35 (zA freshO (some ⟨w.heap.size + 1, 0, none⟩) 1)) := Lib.hid (by
  have h := Blk.new (W0.alloc (.cells #[.int .i64 2] 3)) 35 (zA freshO (some ⟨w.heap.size + 1, 0, none⟩) 1)
  rw [hz1] at h
  rw [← hw2]
  exact h)
 have HBz : Hid (Below W0.heap.size W0 w2) := Lib.hid (b01.trans (b12.mono (by omega)))
 have HRz : Hid (Blk w2 w.heap.size 37 (z8 zE none 0)) := Lib.hid ((HBz.out.block _ (by omega)).trans HR0.out)
 have HIz : Hid (Ints w2 (w.heap.size + 2) (some ⟨w.heap.size + 1, 0, none⟩) [2]) := Lib.hid (by
  have h := Ints.lit W0 [2] (by simp)
  rw [z0] at h
  exact h.below b12)
 obtain ⟨q1, hq1⟩ : ∃ q, w.heap.size + 1 + 1 = q := ⟨_, rfl⟩
 rw [hq1] at HQ ⊢
 clear b01 b12 hw2 hw2' hz1
 go_wp2_with (first
  | ((with_reducible refine zH stOrd' _ rfl ⟨q1, 0, none⟩ (zA freshO (some ⟨w.heap.size + 1, 0, none⟩) 1) ?_ ?_ ?_ ?_ ?_); exact rfl; exact rfl; exact HQ.out.cells; exact rfl)
  | ((with_reducible refine zP bEvt rfl _ rfl _ (z8 freshE (some ⟨w.heap.size + 1, 0, none⟩) 1) ?_ (fresh_fill2 _) ?_); exact rfl)
  | ((with_reducible refine zJ stEvt rfl _ _ rfl (w.heap.size) (z8 zE none 0) (z8 freshE (some ⟨w.heap.size + 1, 0, none⟩) 1) ?_ ?_ ?_ ?_ ?_ (yB _ _ _) ?_); exact rfl; exact rfl; exact HRz.out; exact rfl; exact rfl; intro wz k1 k2 k3 k4; have K := lib.h4 k1 k2 k3 k4; clear k1 k2 k3 k4))
 have HR9 : Blk wz w.heap.size 37 (z8 freshE (some ⟨w.heap.size + 1, 0, none⟩) 1) := K.out.1
 refine bodyPost_ret (v := .tuple #[.agg (z8 freshE (some ⟨w.heap.size + 1, 0, none⟩) 1).toArray, .string ⟨freshS.toArray⟩]) (big.zK stEvt Tryz.results44 rfl rfl HR9.cells rfl) rfl ?_
 refine ⟨_, 1, rfl, HB0.out.trans ((HBz.out.mono (by omega)).trans K.out.2.2.2), ?_⟩
 have hsz := K.out.2.2.1
 have hbz := HBz.out.size
 have hq2 := HQ.out.lt
 refine ⟨⟨rfl, fun _ => ⟨_, rfl, by show w.heap.size + 1 < wz.heap.size; omega, fun j u hu => ?_⟩⟩, by simp⟩
 obtain ⟨ad, _, h1, _, h2⟩ := HIz.out.at_ (k := j) (by
  have := (List.getElem?_eq_some_iff.1 hu).1
  simpa using this)
 obtain rfl := Option.some.inj h1
 obtain ⟨h3, h4⟩ := h2
 rw [List.getElem?_map, h3] at hu
 rw [← Option.some.inj hu]
 exact (World.cell?_of_block (by rw [block_of_add]; exact K.out.2.1 _ (by show w.heap.size + 1 ≠ w.heap.size; omega))).trans h4
end Go.Proofs.YtofabhenmplkoaaGreatDoor.evt
namespace Go.Proofs.YtofabhenmplkoaaGreatDoor.evt
open Go.RowKit
open lib rd app els typ big ins ord
open gen hiding zOrd bOrd
open off (zU)
open txt (in64 By strV strV_of joinS decW decW_any Tabs elem_str nameB name_any yA Strs numL number_any own_cap WordsOk WdOut words_any)
theorem vanE_fill (ad : Addr) : Instr.fill ((#[(0, 1), (1, 1), (2, 1), (3, 1), (4, 1), (5, 1), (6, 1), (7, 1), (8, 1), (9, 1), (10, 1), (11, 1), (12, 1), (13, 1)] : Array (Nat × Nat))[·]?) (Value.agg ins.zTy.toArray).cells [(0, .string ⟨#[118, 97, 110]⟩), (1, .int .i64 2), (4, .slice (some ad) 1 1), (8, .int .i64 100), (9, .int .i64 50)] = some (zG vanE (some ad) 1).toArray := by kernel_rfl
theorem vanE_fill2 (ad : Addr) : Instr.fill (fun i => some (i * 14, 14)) ins.zTy.toArray [(0, .agg (zG vanE (some ad) 1).toArray)] = some (zG vanE (some ad) 1).toArray := by kernel_rfl
def awkP (k : Nat) : InP := ⟨some ⟨k, 0, none⟩, 1, none, 0, some ⟨k + 1 + 1, 0, none⟩, 1, none, 0, none, 0, none, 0⟩
def awkJ : Ins := { awkI with types := [{ vanE with count := 1 }] }
theorem awk_at {w : World} : InAt (((w.alloc (.cells #[.string ⟨#[104, 117, 98]⟩] 9)).alloc (.cells #[.int .i64 5] 3)).alloc (.cells (zG vanE (some ⟨w.heap.size + 1, 0, none⟩) 1).toArray 56)) (w.heap.size + 1 + 1 + 1) awkI (awkP w.heap.size) := by
 have h1 : RowAt rStr (w.alloc (.cells #[.string ⟨#[104, 117, 98]⟩] 9)) (w.heap.size + 1) (some ⟨w.heap.size, 0, none⟩) [⟨#[104, 117, 98]⟩] := row_one (cs := [.string ⟨#[104, 117, 98]⟩]) ⟨rfl, by decide⟩
 have z1 : (w.alloc (.cells #[.string ⟨#[104, 117, 98]⟩] 9)).heap.size = w.heap.size + 1 := by simp
 have h2 := Ints.lit (w.alloc (.cells #[.string ⟨#[104, 117, 98]⟩] 9)) [5] (by simp)
 rw [z1] at h2
 have b12 : Below (w.heap.size + 1) (w.alloc (.cells #[.string ⟨#[104, 117, 98]⟩] 9)) ((w.alloc (.cells #[.string ⟨#[104, 117, 98]⟩] 9)).alloc (.cells #[.int .i64 5] 3)) := (Below.refl _ _).alloc (by simp) _
 have z2 : ((w.alloc (.cells #[.string ⟨#[104, 117, 98]⟩] 9)).alloc (.cells #[.int .i64 5] 3)).heap.size = w.heap.size + 1 + 1 := by simp
 have b23 : Below (w.heap.size + 1 + 1) ((w.alloc (.cells #[.string ⟨#[104, 117, 98]⟩] 9)).alloc (.cells #[.int .i64 5] 3)) (((w.alloc (.cells #[.string ⟨#[104, 117, 98]⟩] 9)).alloc (.cells #[.int .i64 5] 3)).alloc (.cells (zG vanE (some ⟨w.heap.size + 1, 0, none⟩) 1).toArray 56)) := (Below.refl _ _).alloc (by rw [z2]; exact Nat.le_refl _) _
 have h3 : Ints (((w.alloc (.cells #[.string ⟨#[104, 117, 98]⟩] 9)).alloc (.cells #[.int .i64 5] 3)).alloc (.cells (zG vanE (some ⟨w.heap.size + 1, 0, none⟩) 1).toArray 56)) (w.heap.size + 1 + 1) (some ⟨w.heap.size + 1, 0, none⟩) [5] := h2.below b23
 have hf : TyFits vanE := by unfold TyFits vanE; decide
 have h4 : RowAt rTy (((w.alloc (.cells #[.string ⟨#[104, 117, 98]⟩] 9)).alloc (.cells #[.int .i64 5] 3)).alloc (.cells (zG vanE (some ⟨w.heap.size + 1, 0, none⟩) 1).toArray 56)) (((w.alloc (.cells #[.string ⟨#[104, 117, 98]⟩] 9)).alloc (.cells #[.int .i64 5] 3)).heap.size + 1) (some ⟨((w.alloc (.cells #[.string ⟨#[104, 117, 98]⟩] 9)).alloc (.cells #[.int .i64 5] 3)).heap.size, 0, none⟩) [vanE] := row_one (rTy_mk (t := vanE) (h3.more (by rw [z2]; omega)) hf)
 rw [z2] at h4
 exact ⟨((h1.below b12).below (b23.mono (by omega))).more (by omega), RowAt.nil, h4, RowAt.nil, RowAt.nil, RowAt.nil, Nat.le_refl 1, Nat.le_refl 0, Nat.le_refl 0, Nat.le_refl 0⟩
set_option maxRecDepth 20000 in
set_option maxHeartbeats 8000000 in
theorem zV (w : World) (ht : Tabs w) : Calls Tryz.prog 14 #[] w fun e w' => e = .returned (.bool true) ∧ Below w.heap.size w w' := by
 have HT := Lib.hid ht
 clear ht
 go_enter Tryz.func14, Tryz.ntmps14
 go_upto_region 2 with (first
  | (go_at_call 44; refine (fresh_any _).mono ?_; rintro e1 w1 ⟨C1, c1, rfl, hb1, hi1⟩; have HI1 := Lib.hid hi1; clear hi1)
  | ((with_reducible refine zJ stEvt rfl _ _ rfl (w1.heap.size) (z8 zE none 0) (z8 freshE C1 c1) ?_ ?_ ?_ ?_ ?_ (yB _ _ _) ?_); exact rfl; exact rfl; exact Blk.new w1 _ _; exact rfl; exact rfl; intro wz k1 k2 k3 k4; have K := lib.h4 k1 k2 k3 k4; clear k1 k2 k3 k4))
 have z1 := hb1.size
 have b2 : Below w1.heap.size w1 wz := ((Below.refl _ _).alloc (Nat.le_refl _) _).trans K.out.2.2.2
 obtain ⟨w2, hw2⟩ : ∃ W, wz = W := ⟨_, rfl⟩
 obtain ⟨q1, hq1⟩ : ∃ q, w1.heap.size = q := ⟨_, rfl⟩
 have HE2 : Hid (Blk w2 q1 37 (z8 freshE C1 c1)) := Lib.hid (by rw [← hw2, ← hq1]; exact K.out.1)
 rw [hw2] at b2 ⊢
 have HI2 : Hid (Ints w2 w2.heap.size C1 freshE.order.load) := Lib.hid ((HI1.out.below b2).more b2.size)
 have HB2 : Hid (Below w.heap.size w w2) := Lib.hid (hb1.trans (b2.mono z1))
 rw [hq1]
 obtain ⟨fs, hfs⟩ : ∃ b, (⟨freshS.toArray⟩ : ByteArray) = b := ⟨_, rfl⟩
 rw [hfs]
 have hpr : Calls Tryz.prog 22 #[.agg (z8 freshE C1 c1).toArray] w2 fun en w' => en = .returned (.tuple #[.string fs, .int .i64 0]) ∧ Below w2.heap.size w2 w' := (print_any freshE C1 c1 w2 (HT.out.below HB2.out) fresh_64 HI2.out (by decide) (by decide)).mono (by
  rintro en w' ⟨rfl, hb⟩
  rw [fresh_prt.1, fresh_prt.2, hfs]
  exact ⟨rfl, hb⟩)
 clear K hw2 hq1 b2 hb1 z1 HI1 HI2 hfs
 go_upto_region 3 with (first
  | ((with_reducible refine zH stEvt _ rfl ⟨q1, 0, none⟩ (z8 freshE C1 c1) ?_ ?_ ?_ ?_ ?_); exact rfl; exact rfl; exact (HE2.out).cells; exact rfl)
  | (go_at_call 22; refine hpr.mono ?_; rintro e3 w3 ⟨rfl, hb3⟩))
 have HB3 : Hid (Below w.heap.size w w3) := Lib.hid (HB2.out.trans (hb3.mono HB2.out.size))
 clear hb3 hpr HE2 HB2
 have hps : Calls Tryz.prog 24 #[.string ⟨#[98, 114, 101, 97, 107, 32, 55, 32, 48]⟩] w3 fun en w' => ∃ C c, en = .returned (.tuple #[.agg (z8 brkE C c).toArray, .int .i64 0]) ∧ Below w3.heap.size w3 w' ∧ Ints w' w'.heap.size C brkE.order.load := (eparse_any ⟨#[98, 114, 101, 97, 107, 32, 55, 32, 48]⟩ (by decide) w3 (HT.out.below HB3.out)).mono (by
  rintro en w' ⟨hb, ⟨h, _⟩ | ⟨e, C, c, h, _, _, rfl, hi⟩⟩
  ·exact absurd brk_line (h.2 rfl brkE)
  ·obtain rfl : e = brkE := (h.1 e rfl).one brk_line
   exact ⟨C, c, rfl, hb, hi.1⟩)
 go_upto_region 4 with (first
  | (go_at_call 24; refine hps.mono ?_; rintro e4 w4 ⟨C4, c4, rfl, hb4, hi4⟩; have HI4 := Lib.hid hi4; clear hi4)
  | ((with_reducible refine zJ stEvt rfl _ _ rfl (w4.heap.size) (z8 zE none 0) (z8 brkE C4 c4) ?_ ?_ ?_ ?_ ?_ (yB _ _ _) ?_); exact rfl; exact rfl; exact Blk.new w4 _ _; exact rfl; exact rfl; intro wz k1 k2 k3 k4; have K := lib.h4 k1 k2 k3 k4; clear k1 k2 k3 k4))
 have z4 := hb4.size
 have b5 : Below w4.heap.size w4 wz := ((Below.refl _ _).alloc (Nat.le_refl _) _).trans K.out.2.2.2
 obtain ⟨w5, hw5⟩ : ∃ W, wz = W := ⟨_, rfl⟩
 obtain ⟨q5, hq5⟩ : ∃ q, w4.heap.size = q := ⟨_, rfl⟩
 have HE5 : Hid (Blk w5 q5 37 (z8 brkE C4 c4)) := Lib.hid (by rw [← hw5, ← hq5]; exact K.out.1)
 rw [hw5] at b5 ⊢
 have HI5 : Hid (Ints w5 w5.heap.size C4 brkE.order.load) := Lib.hid ((HI4.out.below b5).more b5.size)
 have HB5 : Hid (Below w.heap.size w w5) := Lib.hid (HB3.out.trans ((hb4.trans (b5.mono z4)).mono HB3.out.size))
 rw [hq5]
 clear K hw5 hq5 b5 hb4 z4 HI4 hps HB3
 go_upto_region 5 with (first
  | ((with_reducible refine zP ins.bTy rfl _ rfl _ (zG vanE (some ⟨w5.heap.size + 1, 0, none⟩) 1) ?_ (vanE_fill _) ?_); exact rfl)
  | ((with_reducible refine wpList_bsliceL ins.ty_elem rfl 1 _ rfl _ (zG vanE (some ⟨w5.heap.size + 1, 0, none⟩) 1) ins.zTy ?_ (by decide) (by decide) ins.ty_range (vanE_fill2 _) ?_); exact rfl))
 obtain ⟨V, hV⟩ : ∃ V, ((w5.alloc (.cells #[.string ⟨#[104, 117, 98]⟩] 9)).alloc (.cells #[.int .i64 5] 3)).alloc (.cells (zG vanE (some ⟨w5.heap.size + 1, 0, none⟩) 1).toArray 56) = V := ⟨_, rfl⟩
 have hat := awk_at (w := w5)
 rw [hV] at hat ⊢
 have hzV : V.heap.size = w5.heap.size + 3 := by rw [← hV]; simp
 have b5V : Below w5.heap.size w5 V := by rw [← hV]; exact (((Below.refl _ _).alloc (Nat.le_refl _) _).alloc (by simp) _).alloc (by simp; omega) _
 obtain ⟨k5, hk5⟩ : ∃ k, w5.heap.size = k := ⟨_, rfl⟩
 rw [hk5] at hat hzV ⊢
 obtain ⟨w6, hw6⟩ : ∃ W, V.alloc (.cells (insCs awkI (awkP k5)).toArray 30) = W := ⟨_, rfl⟩
 have hw6' : V.alloc (.cells #[.slice (some ⟨k5, 0, none⟩) 1 1, .slice none 0 0, .slice (some ⟨k5 + 1 + 1, 0, none⟩) 1 1, .slice none 0 0, .slice none 0 0, .slice none 0 0] 30) = w6 := hw6
 rw [hw6']
 have b6 : Below V.heap.size V w6 := by rw [← hw6]; exact (Below.refl _ _).alloc (Nat.le_refl _) _
 obtain ⟨q6, hq6⟩ : ∃ q, V.heap.size = q := ⟨_, rfl⟩
 have HX6 : Hid (Blk w6 q6 30 (insCs awkI (awkP k5))) := Lib.hid (by rw [← hq6, ← hw6]; exact Blk.new V _ _)
 have HA6 : Hid (InAt w6 w6.heap.size awkI (awkP k5)) := Lib.hid ((hat.below (b6.mono (by omega))).more (by have := b6.size; omega))
 have b56 : Below w5.heap.size w5 w6 := b5V.trans (b6.mono (by omega))
 have HE6 := Lib.hid (HE5.out.below b56)
 have HI6 : Hid (Ints w6 w6.heap.size C4 brkE.order.load) := Lib.hid ((HI5.out.below b56).more b56.size)
 have HB6 : Hid (Below w.heap.size w w6) := Lib.hid (HB5.out.trans (b56.mono HB5.out.size))
 have hf64 : yN brkE := brk_line.2.2.1.1
 have hap : Calls Tryz.prog 17 #[InV awkI (awkP k5), .agg (z8 brkE C4 c4).toArray] w6 fun en w' => ∃ P, en = .returned (.tuple #[.agg #[.slice P.a0 1 P.c0, .slice P.a1 0 P.c1, .slice P.a2 1 P.c2, .slice P.a3 0 P.c3, .slice P.a4 0 P.c4, .slice P.a5 0 P.c5], .int .i64 0]) ∧ InAt w' w'.heap.size awkJ P ∧ Below w6.heap.size w6 w' := (apply_any awkI (awkP k5) brkE C4 c4 w6.heap.size w6 (Nat.le_refl _) HA6.out awk_ok HI6.out hf64).mono (by
  rintro en w' ⟨P, rfl, hfr, hb⟩
  rw [awk_app] at hfr ⊢
  exact ⟨P, rfl, hfr.here, hb⟩)
 have hfi := Lib.hid hf64
 have hq6' : k5 + 1 + 1 + 1 = q6 := by omega
 rw [hq6']
 clear hV hat hzV b5V hk5 hw6 hw6' b6 hq6 hq6' b56 HE5 HI5 HB5 hf64
 go_upto_region 6 with (first
  | ((with_reducible refine zH stIns _ rfl ⟨q6, 0, none⟩ (insCs awkI (awkP k5)) ?_ ?_ ?_ ?_ ?_); exact rfl; exact rfl; exact HX6.out.cells; exact rfl)
  | ((with_reducible refine zH stEvt _ rfl ⟨q5, 0, none⟩ (z8 brkE C4 c4) ?_ ?_ ?_ ?_ ?_); exact rfl; exact rfl; exact (HE6.out).cells; exact rfl)
  | (go_at_call 17; refine hap.mono ?_; rintro e7 w7 ⟨P, rfl, ha7, hb7⟩; have HA7 := Lib.hid (And.intro ha7 hb7); clear ha7 hb7))
 obtain ⟨w8, hw8⟩ : ∃ W, w7.alloc (.cells #[.slice P.a0 1 P.c0, .slice P.a1 0 P.c1, .slice P.a2 1 P.c2, .slice P.a3 0 P.c3, .slice P.a4 0 P.c4, .slice P.a5 0 P.c5] 30) = W := ⟨_, rfl⟩
 rw [hw8]
 have b8 : Below w7.heap.size w7 w8 := by rw [← hw8]; exact (Below.refl _ _).alloc (Nat.le_refl _) _
 have HX8 : Blk w8 w7.heap.size 30 [.slice P.a0 1 P.c0, .slice P.a1 0 P.c1, .slice P.a2 1 P.c2, .slice P.a3 0 P.c3, .slice P.a4 0 P.c4, .slice P.a5 0 P.c5] := by rw [← hw8]; exact Blk.new w7 _ _
 obtain ⟨ad, D1, d1, hP2, hadb, hty, -, -⟩ := row_Ty (HA7.out.1.types.below b8) (i := 0) (t := { vanE with count := 1 }) rfl
 have b68 : Below w6.heap.size w6 w8 := HA7.out.2.trans (b8.mono HA7.out.2.size)
 have hE8 : Blk w8 q5 37 (z8 brkE C4 c4) := HE6.out.below b68
 have hX8 : Blk w8 q6 30 (insCs awkI (awkP k5)) := HX6.out.below b68
 have c0 : w8.cell? ⟨q5, 0, none⟩ = some (.int .i64 7) := hE8.cell rfl
 have c1' : w8.cell? ⟨q5, 1, none⟩ = some (.int .i64 4) := hE8.cell rfl
 obtain ⟨q7, hq7⟩ : ∃ q, w7.heap.size = q := ⟨_, rfl⟩
 rw [hq7] at HX8 ⊢
 have c2 : w8.cell? ⟨q7, 2, none⟩ = some (.slice P.a2 1 P.c2) := HX8.cell rfl
 have c3 : w8.cell? ⟨ad.block, ad.off + 1, none⟩ = some (.int .i64 1) := by have := hty.2.1; simpa [Addr.add] using this
 have hck : Calls Tryz.prog 15 #[InV awkI (awkP k5), .int .i64 8, .agg (z8 brkE C4 c4).toArray] w8 fun en w' => en = .returned (.int .i64 32) ∧ Below w8.heap.size w8 w' := (echeck_any awkI (awkP k5) 8 brkE C4 c4 w8 ((HA6.out.below b68).more b68.size) awk_ok ((HI6.out.below b68).more b68.size) hfi.out).mono (by
  rintro en w' ⟨rfl, hb⟩
  rw [awk_chk]
  exact ⟨rfl, hb⟩)
 have HB8 : Hid (Below w.heap.size w w8) := Lib.hid (HB6.out.trans (b68.mono HB6.out.size))
 have HP2 := Lib.hid hP2
 rw [hP2] at c2
 have HX := Lib.hid hX8
 have HE := Lib.hid hE8
 clear hw8 b8 HX8 hty hadb b68 hE8 hX8 hq7 HX6 HA6 HE6 HI6 HB6 hap hfi HA7 hP2
 go_wp2_with (first
  | ((with_reducible refine zH stIns _ rfl ⟨q6, 0, none⟩ (insCs awkI (awkP k5)) ?_ ?_ ?_ ?_ ?_); exact rfl; exact rfl; exact HX.out.cells; exact rfl)
  | ((with_reducible refine zH stEvt _ rfl ⟨q5, 0, none⟩ (z8 brkE C4 c4) ?_ ?_ ?_ ?_ ?_); exact rfl; exact rfl; exact (HE.out).cells; exact rfl)
  | (go_at_call 15; refine hck.mono ?_; rintro e9 w9 ⟨rfl, hb9⟩; have HB9 := Lib.hid hb9; clear hb9))
 refine bodyPost_ret (v := .bool true) (by simp [results, Tryz.results14, go_sem]) rfl ⟨rfl, ?_⟩
 exact HB8.out.trans (HB9.out.mono HB8.out.size)
end Go.Proofs.YtofabhenmplkoaaGreatDoor.evt
namespace Go.Proofs.YtofabhenmplkoaaGreatDoor.laid
open Go.ChangeShapes Go.WideShapes Go.ChangeAt Go.RowKit
open txt (Tabs)
theorem own : ownKnob Tryz.prog.godebug = none := by kernel_rfl
theorem star : "*" ++ "errors.errorString" = "*errors.errorString" := by decide
theorem row_err (u : TypeId) (h : Tryz.prog.typeName? 3 u = some "*errors.errorString") : u = 273 :=
 typeName_ptr_named (nm := "errors.errorString") (by rw [star]; kernel_rfl) (by kernel_rfl) (by decide) u (by rw [star]; exact h)
theorem gPow : Tryz.prog.globalNamed "internal/strconv.uint64pow10" = some 3 := by kernel_rfl
theorem gPowT : (Tryz.prog.globals[3]?).map (·.type) = some 261 := by kernel_rfl
theorem gErr : Tryz.prog.globalNamed "strconv.ErrRange" = some 5 := by kernel_rfl
theorem gErrT : (Tryz.prog.globals[5]?).map (·.type) = some 172 := by kernel_rfl
theorem cE : Tryz.prog.cellsOf 275 = 1 := by kernel_rfl
theorem cS : Tryz.prog.cellsOf 9 = 1 := by kernel_rfl
theorem cU : Tryz.prog.cellsOf 238 = 1 := by kernel_rfl
theorem cP : Tryz.prog.cellsOf 261 = 20 := by kernel_rfl
theorem tabs_of {a b : String × DataW Unit} {r : List (String × DataW Unit)} {W : World} (h : laidMet Tryz.prog (a :: b :: ("internal/strconv.uint64pow10", Rows.laid_internal_strconv_uint64pow10) :: ("strconv.ErrRange", Rows.laid_strconv_ErrRange) :: r) W) : Tabs W := by
 have h2 := h.tail.tail
 refine ⟨?_, ?_⟩
 ·have e : (Rows.laid_internal_strconv_uint64pow10 : DataW Unit) = Lib.tabData .u64 Lib.pow10Tab := by kernel_rfl
  rw [e] at h2
  exact Lib.tabIs_of_head gPow gPowT Tryz.underlying261 Tryz.underlying238 cU cP h2
 ·obtain ⟨a1, s1, hv1, -, -, -⟩ := laid_sentinel h2.tail gErr gErrT Tryz.underlying172 row_err Tryz.underlying273 Tryz.underlying275 rfl rfl Tryz.underlying9 cE cS
  exact ⟨_, _, hv1⟩
end Go.Proofs.YtofabhenmplkoaaGreatDoor.laid
namespace Go.Proofs.YtofabhenmplkoaaGreatDoor.typ
open Go.RowKit
open lib
open rd
open txt (in64)
def rI64 : Rd (List Int) where
 size := 1
 at_ w B cs x := rInts.at_ w B cs x ∧ ∀ y ∈ x, in64 y
 len h := rInts.len h.1
 keep hk h := ⟨rInts.keep hk h.1, h.2⟩
 more hB h := ⟨rInts.more hB h.1, h.2⟩
theorem opens_i64 {t e : TypeId} (ht : Tryz.prog.underlying t = some (.slice e)) (he : Tryz.prog.underlying e = some (.int .i64)) (hC : Tryz.prog.cellsOf e = 1) (h8 : 8 ≤ Tryz.prog.bytesOf e) : Opens t rI64 := fun H enc W fuel cs y h hw => by
 obtain ⟨l, A, c, rfl, hl, hr⟩ := opens_slice ht hC (by decide) h8 (zM he) H enc W fuel cs y h hw
 refine ⟨l, ⟨A, c, rfl, ⟨by simp, fun hn => ?_⟩, hl⟩, fun x hx => ?_⟩
 ·obtain ⟨ad, cs0, hA, hb, _, _⟩ := hr 0 l[0] (List.getElem?_eq_getElem hn)
  refine ⟨ad, hA, hb, fun j u hu => ?_⟩
  rw [List.getElem?_map, Option.map_eq_some_iff] at hu
  obtain ⟨x, hx, rfl⟩ := hu
  obtain ⟨ad', cs1, hA', _, ⟨rfl, _⟩, h4⟩ := hr j x hx
  have e0 := Option.some.inj (hA.symm.trans hA')
  subst e0
  have := h4 0 _ rfl
  simpa [rInt] using this
 ·obtain ⟨i, hi⟩ := List.getElem?_of_mem hx
  obtain ⟨ad', cs1, hA', _, ⟨rfl, h3⟩, h4⟩ := hr i x hi
  exact h3
def rOrd64 : Rd Ord := rMap (rPair rStr (rPair rI64 (rPair rStp (rPair rStp (rPair rInt (rPair rInt (rPair rInt (rPair rInt (rPair rInt rBool))))))))) fun x => ⟨x.1, x.2.1, x.2.2.1, x.2.2.2.1, x.2.2.2.2.1, x.2.2.2.2.2.1, x.2.2.2.2.2.2.1, x.2.2.2.2.2.2.2.1, x.2.2.2.2.2.2.2.2.1, x.2.2.2.2.2.2.2.2.2⟩
theorem rOrd64_at {w : World} {B : Nat} {cs : List Value} {t : Ord} (h : rOrd64.at_ w B cs t) : ∃ C0 c0, cs = zA t C0 c0 ∧ Ints w B C0 t.load ∧ yL t ∧ ∀ y ∈ t.load, in64 y := by
 obtain ⟨⟨f0, f1, f2, f3, f4, f5, f6, f7, f8, f9⟩, rfl, _, _, rfl, ⟨rfl, hf0⟩, _, _, rfl, ⟨⟨A0, d0, rfl, hr0⟩, h64⟩, _, _, rfl, hn2, _, _, rfl, hn3, _, _, rfl, ⟨rfl, hf4⟩, _, _, rfl, ⟨rfl, hf5⟩, _, _, rfl, ⟨rfl, hf6⟩, _, _, rfl, ⟨rfl, hf7⟩, _, _, rfl, ⟨rfl, hf8⟩, rfl⟩ := h
 obtain ⟨rfl, hf2⟩ := rStp_at hn2
 obtain ⟨rfl, hf3⟩ := rStp_at hn3
 exact ⟨A0, d0, rfl, hr0, ⟨hf0, hf2, hf3, hf4, hf5, hf6, hf7, hf8⟩, h64⟩
set_option maxRecDepth 20000 in
theorem opens_Ord64 : Opens 35 rOrd64 := opens_map _ (opens_struct Tryz.underlying35 (by kernel_rfl) (zL rfl (by kernel_rfl) (opens_str Tryz.underlying9) (zL rfl (by kernel_rfl) (opens_i64 Tryz.underlying31 Tryz.underlying3 (by kernel_rfl) (by rw [show Tryz.prog.bytesOf 3 = 8 by kernel_rfl]; omega)) (zL rfl (by kernel_rfl) opens_Stp (zL rfl (by kernel_rfl) opens_Stp (zL rfl (by kernel_rfl) (zM Tryz.underlying3) (zL rfl (by kernel_rfl) (zM Tryz.underlying3) (zL rfl (by kernel_rfl) (zM Tryz.underlying3) (zL rfl (by kernel_rfl) (zM Tryz.underlying3) (zL rfl (by kernel_rfl) (zM Tryz.underlying3) (fieldsOpen_one rfl (by kernel_rfl) (opens_bool Tryz.underlying4))))))))))))
def rEvt64 : Rd Evt := rMap (rPair rInt (rPair rInt (rPair rInt (rPair rInt (rPair rInt rOrd64))))) fun x => ⟨x.1, x.2.1, x.2.2.1, x.2.2.2.1, x.2.2.2.2.1, x.2.2.2.2.2⟩
theorem rEvt64_at {w : World} {B : Nat} {cs : List Value} {t : Evt} (h : rEvt64.at_ w B cs t) : ∃ C0 c0, cs = z8 t C0 c0 ∧ Ints w B C0 t.order.load ∧ (yN t ∧ ∀ y ∈ t.order.load, in64 y) := by
 obtain ⟨⟨f0, f1, f2, f3, f4, f5⟩, rfl, _, _, rfl, ⟨rfl, hf0⟩, _, _, rfl, ⟨rfl, hf1⟩, _, _, rfl, ⟨rfl, hf2⟩, _, _, rfl, ⟨rfl, hf3⟩, _, _, rfl, ⟨rfl, hf4⟩, hn5⟩ := h
 obtain ⟨A0, d0, rfl, hr0, hf5, h64⟩ := rOrd64_at hn5
 exact ⟨A0, d0, rfl, hr0, ⟨hf0, hf1, hf2, hf3, hf4, hf5⟩, h64⟩
set_option maxRecDepth 20000 in
theorem opens_Evt64 : Opens 37 rEvt64 := opens_map _ (opens_struct Tryz.underlying37 (by kernel_rfl) (zL rfl (by kernel_rfl) (zM Tryz.underlying3) (zL rfl (by kernel_rfl) (zM Tryz.underlying3) (zL rfl (by kernel_rfl) (zM Tryz.underlying3) (zL rfl (by kernel_rfl) (zM Tryz.underlying3) (zL rfl (by kernel_rfl) (zM Tryz.underlying3) (fieldsOpen_one rfl (by kernel_rfl) opens_Ord64)))))))
end Go.Proofs.YtofabhenmplkoaaGreatDoor.typ
