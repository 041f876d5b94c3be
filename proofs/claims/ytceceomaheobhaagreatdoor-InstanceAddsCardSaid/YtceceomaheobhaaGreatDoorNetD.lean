/- network.Check: the violations of a network. -/
import Derived.Test.YtceceomaheobhaaGreatDoorNetC
import Derived.Test.YtceceomaheobhaaGreatDoorBase
namespace Go.Proofs.YtceceomaheobhaaGreatDoor.net
open Go.RowKit
open Go.Proofs.YtceceomaheobhaaGreatDoor.lib Go.Proofs.YtceceomaheobhaaGreatDoor.rd Go.Proofs.YtceceomaheobhaaGreatDoor.typ Go.Proofs.YtceceomaheobhaaGreatDoor.app Go.Proofs.YtceceomaheobhaaGreatDoor.note Go.Proofs.YtceceomaheobhaaGreatDoor.mrk Go.Proofs.YtceceomaheobhaaGreatDoor.trv Go.Proofs.YtceceomaheobhaaGreatDoor.flts Go.Proofs.YtceceomaheobhaaGreatDoor.txt Go.Proofs.YtceceomaheobhaaGreatDoor.eqg
set_option linter.unusedVariables false
set_option linter.unusedSimpArgs false

def plcS (i : Nat) : ByteArray := ⟨#[112, 108, 97, 99, 101, 32]⟩ ++ decS i
def arcS (i : Nat) : ByteArray := ⟨#[97, 114, 99, 32]⟩ ++ decS i
def plP (l : List ByteArray) (i : Nat) (s : ByteArray) : List Flt := if nameB s = true then (if hasB (l.take i) s = true then [⟨6, plcS i⟩] else []) else [⟨5, plcS i⟩]
def plAt (l : List ByteArray) (i : Nat) : List Flt := match l[i]? with
  | some s => plP l i s
  | none => []
/-- The violations of the places below j. -/
def plTo (l : List ByteArray) : Nat → List Flt
  | 0 => if 24 < l.length then [⟨4, ⟨#[112, 108, 97, 99, 101, 115]⟩⟩] else []
  | j + 1 => plTo l j ++ plAt l j
theorem plP_len (l : List ByteArray) (i : Nat) (s : ByteArray) : (plP l i s).length ≤ 1 := by
  unfold plP
  split
  · split <;> simp
  · simp
theorem plTo_len (l : List ByteArray) : ∀ j, (plTo l j).length ≤ 1 + j
  | 0 => by unfold plTo; split <;> simp
  | j + 1 => by
    have ih := plTo_len l j
    have h : (plAt l j).length ≤ 1 := by
      unfold plAt
      split
      · exact plP_len _ _ _
      · exact Nat.zero_le _
    rw [plTo, List.length_append]
    omega
theorem plTo_succ {l : List ByteArray} {j : Nat} {s : ByteArray} (h : l[j]? = some s) : plTo l (j + 1) = plTo l j ++ plP l j s := by
  rw [plTo]
  unfold plAt
  rw [h]
theorem take_snoc' {α : Type} {l : List α} {k : Nat} {x : α} (h : l[k]? = some x) : l.take (k + 1) = l.take k ++ [x] := by
  obtain ⟨h1, h2⟩ := List.getElem?_eq_some_iff.1 h
  rw [List.take_succ_eq_append_getElem h1, h2]
def arFs (P : Int) (l : List Arc) (i : Nat) (x : Arc) : List Flt := (arcE P ((l.take i).map wayK) x).map fun e => ⟨e, arcS i⟩
def arAt (P : Int) (l : List Arc) (i : Nat) : List Flt := match l[i]? with
  | some x => arFs P l i x
  | none => []
/-- The violations of the places and of the arcs below j. -/
def netTo (n : Net) : Nat → List Flt
  | 0 => plTo n.places n.places.length ++ (if 1024 < n.arcs.length then [⟨4, ⟨#[97, 114, 99, 115]⟩⟩] else [])
  | j + 1 => netTo n j ++ arAt n.places.length n.arcs j
theorem netTo_succ {n : Net} {j : Nat} {x : Arc} (h : n.arcs[j]? = some x) : netTo n (j + 1) = netTo n j ++ arFs n.places.length n.arcs j x := by
  rw [netTo]
  unfold arAt
  rw [h]
theorem pushIf_le (xs : List Int) (r : Bool) (u : Int) (k : Nat) (h : xs.length ≤ k) : (pushIf xs r u).length ≤ k + 1 := Nat.le_trans (pushIf_len _ _ _) (Nat.add_le_add_right h 1)
theorem tv_le (l : List Pt) (h : l.length ≤ 100) : (tvTo l l.length).length ≤ 201 := by have := tvTo_len l l.length; omega
theorem sl_le (l : List Pt) (h : l.length ≤ 1000) : (slTo l l.length).length ≤ 1001 := by have := slTo_len l l.length; omega
theorem arcE_len (P : Int) (ks : List (Int × Int × Int)) (x : Arc) (h1 : x.travel.length ≤ 100) (h2 : x.slow.length ≤ 1000) : (arcE P ks x).length ≤ 1205 := by
  unfold arcE
  rw [List.length_append, List.length_append, List.length_map]
  have := pushIf_le _ (!hasB ks (wayK x)) 6 2 (pushIf_le _ (!arcBad x) 2 1 (pushIf_le [] (arcOk P x) 11 0 (Nat.le_refl _)))
  have := tv_le x.travel h1
  have := sl_le x.slow h2
  omega

theorem netTo_len (n : Net) (hs : ∀ a ∈ n.arcs, a.travel.length ≤ 100 ∧ a.slow.length ≤ 1000) : ∀ j, (netTo n j).length ≤ 2 + n.places.length + 1205 * j
  | 0 => by
    have := plTo_len n.places n.places.length
    unfold netTo
    rw [List.length_append]
    split <;> simp <;> omega
  | j + 1 => by
    have ih := netTo_len n hs j
    have h : (arAt n.places.length n.arcs j).length ≤ 1205 := by
      unfold arAt
      split
      · rename_i a ha
        obtain ⟨h1, h2⟩ := hs a (List.mem_of_getElem? ha)
        unfold arFs
        rw [List.length_map]
        exact arcE_len _ _ _ h1 h2
      · exact Nat.zero_le _
    rw [netTo, List.length_append]
    omega
/-- Where a row of numbers lies: not beyond the heap, whatever its length. -/
theorem row_place' {w : World} {base c : Nat} {e : TypeId} {A : Option Addr} {l : List Int} (P : Nat) (hP : P < w.heap.size) (h : w.ownsRow base e 1 (.slice A l.length c) l.length (l.map (.int .i64))) :
    ∃ g, g < w.heap.size ∧ (g = P ∨ base ≤ g) ∧ (0 < l.length → A = some ⟨g, 0, none⟩) ∧ ∀ q, q < l.length → w.cell? ⟨g, q, none⟩ = some (.int .i64 (l[q]?.getD 0)) := by
  obtain ⟨g, h1, h2, h3⟩ := row_place h
  by_cases h0 : 0 < l.length
  · exact ⟨g, (h2 h0).2, .inr h1, fun _ => (h2 h0).1, h3⟩
  · exact ⟨P, hP, .inl rfl, fun hh => absurd hh h0, fun q hq => absurd hq (by omega)⟩

set_option maxRecDepth 20000 in
set_option maxHeartbeats 2000000 in
theorem ncheck_any (x : Net) (A0 : Option Addr) (d0 : Nat) (A1 : Option Addr) (d1 : Nat) (w : World) (hP : RowAt rStr w w.heap.size A0 x.places) (hA : RowAt rArc w w.heap.size A1 x.arcs)
    (hp : x.places.length ≤ 100) (ha : x.arcs.length ≤ 10000) (hs : ∀ a ∈ x.arcs, a.travel.length ≤ 100 ∧ a.slow.length ≤ 1000) (hq : ∀ (j : Nat) a, x.arcs[j]? = some a → arcE x.places.length ((x.arcs.take j).map wayK) a ≠ [] → j < 100) :
    Calls Tryz.prog 24 #[.agg #[.slice A0 x.places.length d0, .slice A1 x.arcs.length d1]] w (FltsOut w (netTo x x.arcs.length)) := by
  obtain ⟨l, hl⟩ : ∃ l, x.places = l := ⟨_, rfl⟩
  obtain ⟨ar, has⟩ : ∃ ar, x.arcs = ar := ⟨_, rfl⟩
  obtain ⟨n, hn⟩ : ∃ n, l.length = n := ⟨_, rfl⟩
  obtain ⟨m, hm⟩ : ∃ m, ar.length = m := ⟨_, rfl⟩
  obtain ⟨R, hR⟩ : ∃ R, netTo x = R := ⟨_, rfl⟩
  obtain ⟨F, hF⟩ : ∃ F, plTo l = F := ⟨_, rfl⟩
  have hFl : ∀ j, (F j).length ≤ 1 + j := fun j => by rw [← hF]; exact plTo_len _ j
  have HF := Lib.hid hF
  have HF0 : Hid (F 0 = if 24 < n then [⟨4, ⟨#[112, 108, 97, 99, 101, 115]⟩⟩] else []) := Lib.hid (by rw [← hF, ← hn]; rfl)
  have HR0 : Hid (R 0 = F n ++ (if 1024 < m then [⟨4, ⟨#[97, 114, 99, 115]⟩⟩] else [])) := Lib.hid (by rw [← hR, ← hF, ← hn, ← hm, ← hl, ← has]; rfl)
  have HRS : Hid (∀ (j : Nat) a, ar[j]? = some a → R (j + 1) = R j ++ arFs n ar j a) := Lib.hid fun j a h => by rw [← has] at h ⊢; rw [← hR, netTo_succ h, ← hn, ← hl]
  rw [hl, has, hn] at hq
  rw [hl] at hP hp
  rw [has] at hA ha hs
  rw [hl, has, hn, hm, hR]
  rw [hn] at hp
  rw [hm] at ha
  have HN := Lib.hid hn
  have HM := Lib.hid hm
  have HS := Lib.hid (And.intro hs hq)
  have hmm := @run_makeMap Tryz.prog
  have HRL : Hid (∀ j, (R j).length ≤ 2 + n + 1205 * j) := Lib.hid fun j => by rw [← hR, ← hn, ← hl]; exact netTo_len x (by rw [has]; exact hs) j
  clear hl has hn hm hR hF hs hq
  go_enter Tryz.func24, Tryz.ntmps24
  go_upto_if 16 with fail
  go_cut [3] (fun v wx => ∃ A' c', v = .slice A' (F 0).length c' ∧ OutP wx (w.heap.size + 1) [w.heap.size] A' c' (F 0) ∧ (wx.cell? ⟨w.heap.size, 0, none⟩ = some (.slice A0 n d0) ∧ wx.cell? ⟨w.heap.size, 1, none⟩ = some (.slice A1 m d1)) ∧ Below w.heap.size w wx)
  case first => as_aux_lemma =>
    obtain ⟨W1, hW1⟩ : ∃ W1, w.alloc (.cells #[.slice A0 n d0, .slice A1 m d1] 25) = W1 := ⟨_, rfl⟩
    have hc0 : W1.cell? ⟨w.heap.size, 0, none⟩ = some (.slice A0 n d0) := by rw [← hW1]; exact two_new w _ _ _ 0 _ rfl
    have hc1 : W1.cell? ⟨w.heap.size, 1, none⟩ = some (.slice A1 m d1) := by rw [← hW1]; exact two_new w _ _ _ 1 _ rfl
    have hB1 : Below w.heap.size w W1 := by rw [← hW1]; exact (Below.refl _ _).alloc (Nat.le_refl _) _
    have hs1 : w.heap.size < W1.heap.size := by rw [← hW1]; simp
    have hO : OutP W1 (w.heap.size + 1) [w.heap.size] none 0 [] := ⟨World.ownsRow_nil _ _ _ _, fun q hq e => (by cases e), fun q hq => by rw [List.mem_singleton] at hq; omega⟩
    rw [hW1]
    clear hW1
    by_cases hq : 24 < n
    · have HE : Hid (F 0 = [⟨4, ⟨#[112, 108, 97, 99, 101, 115]⟩⟩]) := Lib.hid (by rw [HF0.out, if_pos hq])
      have hq' : (24 : Int) < (n : Int) := by omega
      clear hq
      go_wp2_with (at_builtin; refine wpList_app fault_elem _ _ rfl (w.heap.size + 1) none 0 0 [] rfl (hO.own.alloc _) ⟨W1.heap.size, 0, none⟩ 1 [.int .i64 4, .string ⟨#[112, 108, 97, 99, 101, 115]⟩] rfl rfl (two_new W1 (.int .i64 4) (.string ⟨#[112, 108, 97, 99, 101, 115]⟩) 37) (by simp [Value.oneCell']) (by omega) (by simp; omega) rfl ?_; intro g1 c1 w2 hown1 hg1 hd1)
      go_meet
      have hp := hO.push (f := ⟨4, ⟨#[112, 108, 97, 99, 101, 115]⟩⟩) ((Below.refl _ _).alloc (Nat.le_refl _) _) hown1 hg1 hd1
      have hk := hp.2 w.heap.size (by simp)
      exact ⟨_, _, by rw [HE.out]; rfl, by rw [HE.out]; exact hp.1, ⟨cell_heap hk hc0, cell_heap hk hc1⟩, (hB1.alloc (by omega) _).grown hg1 (by simp; omega) (fun q e => by cases e)⟩
    · have HE : Hid (F 0 = []) := Lib.hid (by rw [HF0.out, if_neg hq])
      have hq' : ¬ (24 : Int) < (n : Int) := by omega
      clear hq
      go_wp2
      go_meet
      exact ⟨none, 0, by rw [HE.out]; rfl, by rw [HE.out]; exact hO, ⟨hc0, hc1⟩, hB1⟩
  obtain ⟨A', c', hv, hO, ⟨hc0, hc1⟩, hB⟩ := hcut
  subst hv
  have zc := hB.size
  have hlt0 := hO.lt w.heap.size (by simp)
  go_upto_region 6 with fail
  have hM : Marks nameE (wc.alloc (.map #[] 0)) wc.heap.size 0 [] := Marks.made nameE wc
  have hO1 := hO.more (q := wc.heap.size) ((Below.refl _ _).alloc (Nat.le_refl _) (.map #[] 0)) (Nat.le_refl _) (by simp)
  have hB1 : Below w.heap.size w (wc.alloc (.map #[] 0)) := hB.alloc zc _
  have hd0 := (World.cell?_alloc_lt wc (.map #[] 0) ⟨w.heap.size, 0, none⟩ hlt0).trans hc0
  have hd1 := (World.cell?_alloc_lt wc (.map #[] 0) ⟨w.heap.size, 1, none⟩ hlt0).trans hc1
  obtain ⟨W1, hW1⟩ : ∃ W1, wc.alloc (.map #[] 0) = W1 := ⟨_, rfl⟩
  rw [hW1] at hM hO1 hB1 hd0 hd1 ⊢
  obtain ⟨b1, hb1⟩ : ∃ b, wc.heap.size = b := ⟨_, rfl⟩
  rw [hb1] at hM hO1 zc ⊢
  have hlb : w.heap.size < b1 := by omega
  clear hW1 hc0 hc1 hB hO hb1 hlt0
  go_loopw [3, 25] (fun v k wr => ∃ (j : Nat) (A' : Option Addr) (c' : Nat), j ≤ n ∧ k = .int .i64 j ∧ v = .slice A' (F j).length c' ∧ OutP wr (w.heap.size + 1) [b1, w.heap.size] A' c' (F j) ∧ Marks nameE wr b1 j (l.take j) ∧ (wr.cell? ⟨w.heap.size, 0, none⟩ = some (.slice A0 n d0) ∧ wr.cell? ⟨w.heap.size, 1, none⟩ = some (.slice A1 m d1)) ∧ Below w.heap.size w wr) (fun _ k _ => n - (intOf k).toNat)
  case atStart => exact ⟨0, A', c', by omega, rfl, rfl, hO1, hM, ⟨hd0, hd1⟩, hB1⟩
  case round =>
    clear hM hO1 hB1 hd0 hd1
    obtain ⟨j, A', c', hj, rfl, rfl, hO, hM, hcc, hB⟩ := hrel
    have zb := hB.size
    by_cases hlt : j < n
    · obtain ⟨s, hs⟩ : ∃ s, l[j]? = some s := ⟨_, List.getElem?_eq_getElem (by rw [HN.out]; exact hlt)⟩
      obtain ⟨ad, rfl, hadb, mx, hsz⟩ := row_Str (hP.below hB) hs
      have hk0 : (0 : Int) ≤ (j : Int) := by omega
      have hkn : (j : Int) < (n : Int) := by omega
      have hFj := hFl j
      have hj100 : j < 100 := by omega
      have HP : Hid (F (j + 1) = F j ++ plP l j s) := Lib.hid (by rw [← HF.out, plTo_succ hs])
      have HTK := Lib.hid (take_snoc' hs)
      have hds := decS_size j
      have t1 : ¬ 9223372036854775807 < 6 + (decS j).size := by omega
      have HC := Lib.hid hcc
      obtain ⟨hO', hM'⟩ : Hid (OutP wr (w.heap.size + 1) [b1, w.heap.size] A' c' (F j)) ∧ Hid (Marks nameE wr b1 j (l.take j)) := ⟨Lib.hid hO, Lib.hid hM⟩
      have lt1 := hO.lt b1 (by simp)
      have lt0 := hO.lt w.heap.size (by simp)
      clear hs hcc hO hM
      cases hnb : nameB s
      case false =>
        have HE : Hid (F (j + 1) = F j ++ [⟨5, plcS j⟩]) := Lib.hid (by rw [HP.out]; unfold plP; rw [hnb]; rfl)
        go_wp2_with (first | (go_at_call 61; refine (dec_any j hj100 _).mono ?_; rintro e we ⟨rfl, rfl⟩) | (go_at_call 62; refine (name_any s hsz _).mono ?_; rw [hnb]; rintro e we ⟨rfl, rfl⟩) | (at_lookup; refine wpList_mark_look nameE rfl _ _ rfl b1 j (l.take j) rfl hM'.out s rfl hsz ?_; rw [hhb]) | (at_builtin; refine wpList_app fault_elem _ _ rfl (w.heap.size + 1) A' (F j).length c' (fcs (F j)) rfl (hO'.out.own.alloc _) ⟨wr.heap.size, 0, none⟩ 1 [.int .i64 5, .string (plcS j)] rfl rfl (two_new wr (.int .i64 5) (.string (plcS j)) 37) (by simp [Value.oneCell']) (by omega) (by simp; omega) rfl ?_; intro g3 c3 w3 hown3 hg3 hd3; have hp3 := hO'.out.push (f := ⟨5, plcS j⟩) ((Below.refl _ _).alloc (Nat.le_refl _) _) hown3 hg3 hd3; have hM3 := marks_heap hM'.out (hp3.2 b1 (by simp))) | (at_mapUpdate; refine wpList_mark_set nameE rfl _ _ _ rfl b1 j (l.take j) rfl hM3 s rfl rfl hsz (by unfold maxLen; omega) ?_; intro w4 hM4 hg4))
        have hk0 := hp3.2 w.heap.size (by simp)
        have s3 := hg3.size
        simp at s3
        have hk4 := hg4.block w.heap.size (by omega) (fun e => by injection e with e; omega)
        go_roundw
        case rel => exact ⟨j + 1, some ⟨g3, 0, none⟩, c3, by omega, by go_num, by rw [HE.out, List.length_append]; rfl, by rw [HE.out]; exact hp3.1.kept (by simp) hg4, by rw [HTK.out]; exact hM4, ⟨cell_heap (hk4.trans hk0) HC.out.1, cell_heap (hk4.trans hk0) HC.out.2⟩, ((hB.alloc zb _).grown hg3 (by simp; omega) (fun k e => by have := (World.ownsRow.lt hO'.out.own _ e).1; omega)).grown hg4 (by omega) (fun k e => by injection e with e; omega)⟩
        case measure => simp [intOf]; omega
      case true =>
        cases hhb : hasB (l.take j) s
        case false =>
          have HE : Hid (F (j + 1) = F j) := Lib.hid (by rw [HP.out]; unfold plP; rw [hnb, hhb]; simp)
          have hM3 := hM'.out
          go_wp2_with (first | (go_at_call 61; refine (dec_any j hj100 _).mono ?_; rintro e we ⟨rfl, rfl⟩) | (go_at_call 62; refine (name_any s hsz _).mono ?_; rw [hnb]; rintro e we ⟨rfl, rfl⟩) | (at_lookup; refine wpList_mark_look nameE rfl _ _ rfl b1 j (l.take j) rfl hM'.out s rfl hsz ?_; rw [hhb]) | (at_mapUpdate; refine wpList_mark_set nameE rfl _ _ _ rfl b1 j (l.take j) rfl hM3 s rfl rfl hsz (by unfold maxLen; omega) ?_; intro w4 hM4 hg4))
          go_roundw
          case rel => exact ⟨j + 1, A', c', by omega, by go_num, by rw [HE.out], by rw [HE.out]; exact hO'.out.kept (by simp) hg4, by rw [HTK.out]; exact hM4, ⟨cell_heap (hg4.block w.heap.size lt0 (fun e => by injection e with e; omega)) HC.out.1, cell_heap (hg4.block w.heap.size lt0 (fun e => by injection e with e; omega)) HC.out.2⟩, hB.grown hg4 zb (fun k e => by injection e with e; omega)⟩
          case measure => simp [intOf]; omega
        case true =>
          have HE : Hid (F (j + 1) = F j ++ [⟨6, plcS j⟩]) := Lib.hid (by rw [HP.out]; unfold plP; rw [hnb, hhb]; rfl)
          go_wp2_with (first | (go_at_call 61; refine (dec_any j hj100 _).mono ?_; rintro e we ⟨rfl, rfl⟩) | (go_at_call 62; refine (name_any s hsz _).mono ?_; rw [hnb]; rintro e we ⟨rfl, rfl⟩) | (at_lookup; refine wpList_mark_look nameE rfl _ _ rfl b1 j (l.take j) rfl hM'.out s rfl hsz ?_; rw [hhb]) | (at_builtin; refine wpList_app fault_elem _ _ rfl (w.heap.size + 1) A' (F j).length c' (fcs (F j)) rfl (hO'.out.own.alloc _) ⟨wr.heap.size, 0, none⟩ 1 [.int .i64 6, .string (plcS j)] rfl rfl (two_new wr (.int .i64 6) (.string (plcS j)) 37) (by simp [Value.oneCell']) (by omega) (by simp; omega) rfl ?_; intro g3 c3 w3 hown3 hg3 hd3; have hp3 := hO'.out.push (f := ⟨6, plcS j⟩) ((Below.refl _ _).alloc (Nat.le_refl _) _) hown3 hg3 hd3; have hM3 := marks_heap hM'.out (hp3.2 b1 (by simp))) | (at_mapUpdate; refine wpList_mark_set nameE rfl _ _ _ rfl b1 j (l.take j) rfl hM3 s rfl rfl hsz (by unfold maxLen; omega) ?_; intro w4 hM4 hg4))
          have hk0 := hp3.2 w.heap.size (by simp)
          have s3 := hg3.size
          simp at s3
          have hk4 := hg4.block w.heap.size (by omega) (fun e => by injection e with e; omega)
          go_roundw
          case rel => exact ⟨j + 1, some ⟨g3, 0, none⟩, c3, by omega, by go_num, by rw [HE.out, List.length_append]; rfl, by rw [HE.out]; exact hp3.1.kept (by simp) hg4, by rw [HTK.out]; exact hM4, ⟨cell_heap (hk4.trans hk0) HC.out.1, cell_heap (hk4.trans hk0) HC.out.2⟩, ((hB.alloc zb _).grown hg3 (by simp; omega) (fun k e => by have := (World.ownsRow.lt hO'.out.own _ e).1; omega)).grown hg4 (by omega) (fun k e => by injection e with e; omega)⟩
          case measure => simp [intOf]; omega
    · have hjn : n = j := by omega
      subst hjn
      have zc := hO.lt w.heap.size (by simp)
      have HO := Lib.hid (OutP.less hO (prot' := [w.heap.size]) (by simp))
      have HNC := Lib.hid hcc
      obtain ⟨hc0, hc1⟩ := hcc
      have hFn := hFl n
      clear hO hM hj hlt
      go_upto_if 57 with fail
      go_cut [3] (fun v wx => ∃ A' c', v = .slice A' (R 0).length c' ∧ OutP wx (w.heap.size + 1) [w.heap.size] A' c' (R 0) ∧ (wx.cell? ⟨w.heap.size, 0, none⟩ = some (.slice A0 n d0) ∧ wx.cell? ⟨w.heap.size, 1, none⟩ = some (.slice A1 m d1)) ∧ Below w.heap.size w wx)
      case first => as_aux_lemma =>
        by_cases hq : 1024 < m
        · have HE : Hid (R 0 = F n ++ [⟨4, ⟨#[97, 114, 99, 115]⟩⟩]) := Lib.hid (by rw [HR0.out, if_pos hq])
          have hq' : (1024 : Int) < (m : Int) := by omega
          clear hq
          go_wp2_with (at_builtin; refine wpList_app fault_elem _ _ rfl (w.heap.size + 1) A' (F n).length c' (fcs (F n)) rfl (HO.out.own.alloc _) ⟨wr.heap.size, 0, none⟩ 1 [.int .i64 4, .string ⟨#[97, 114, 99, 115]⟩] rfl rfl (two_new wr (.int .i64 4) (.string ⟨#[97, 114, 99, 115]⟩) 37) (by simp [Value.oneCell']) (by omega) (by simp; omega) rfl ?_; intro g1 c1 w2 hown1 hg1 hd1)
          go_meet
          have hp := HO.out.push (f := ⟨4, ⟨#[97, 114, 99, 115]⟩⟩) ((Below.refl _ _).alloc (Nat.le_refl _) _) hown1 hg1 hd1
          have hk := hp.2 w.heap.size (by simp)
          exact ⟨_, _, by rw [HE.out, List.length_append]; rfl, by rw [HE.out]; exact hp.1, ⟨cell_heap hk HNC.out.1, cell_heap hk HNC.out.2⟩, (hB.alloc zb _).grown hg1 (by simp; omega) (fun q e => by have := (World.ownsRow.lt HO.out.own _ e).1; omega)⟩
        · have HE : Hid (R 0 = F n) := Lib.hid (by rw [HR0.out, if_neg hq, List.append_nil])
          have hq' : ¬ (1024 : Int) < (m : Int) := by omega
          clear hq
          go_wp2
          go_meet
          exact ⟨A', c', by rw [HE.out], by rw [HE.out]; exact HO.out, HNC.out, hB⟩
      clear HO HNC hc0 hc1 hB zb zc hFn
      obtain ⟨A', c', hv, hO, ⟨hc0, hc1⟩, hB⟩ := hcut
      subst hv
      have zc := hB.size
      have hlt0 := hO.lt w.heap.size (by simp)
      go_upto_region 19 with fail
      have hM : Marks wayE (wc.alloc (.map #[] 0)) wc.heap.size 0 [] := Marks.made wayE wc
      have hO1 := hO.more (q := wc.heap.size) ((Below.refl _ _).alloc (Nat.le_refl _) (.map #[] 0)) (Nat.le_refl _) (by simp)
      have hB1 : Below w.heap.size w (wc.alloc (.map #[] 0)) := hB.alloc zc _
      have hd0 := (World.cell?_alloc_lt wc (.map #[] 0) ⟨w.heap.size, 0, none⟩ hlt0).trans hc0
      have hd1 := (World.cell?_alloc_lt wc (.map #[] 0) ⟨w.heap.size, 1, none⟩ hlt0).trans hc1
      obtain ⟨W1, hW1⟩ : ∃ W1, wc.alloc (.map #[] 0) = W1 := ⟨_, rfl⟩
      rw [hW1] at hM hO1 hB1 hd0 hd1 ⊢
      obtain ⟨b2, hb2⟩ : ∃ b, wc.heap.size = b := ⟨_, rfl⟩
      rw [hb2] at hM hO1 zc ⊢
      have hlb2 : w.heap.size < b2 := by omega
      clear hW1 hc0 hc1 hB hO hb2 hlt0
      go_loopw [3, 66] (fun v k wr => ∃ (j : Nat) (A' : Option Addr) (c' : Nat), j ≤ m ∧ k = .int .i64 j ∧ v = .slice A' (R j).length c' ∧ OutP wr (w.heap.size + 1) [b2, w.heap.size] A' c' (R j) ∧ Marks wayE wr b2 j ((ar.take j).map wayK) ∧ (wr.cell? ⟨w.heap.size, 0, none⟩ = some (.slice A0 n d0) ∧ wr.cell? ⟨w.heap.size, 1, none⟩ = some (.slice A1 m d1)) ∧ Below w.heap.size w wr) (fun _ k _ => m - (intOf k).toNat)
      case atStart => exact ⟨0, A', c', by omega, rfl, rfl, hO1, hM, ⟨hd0, hd1⟩, hB1⟩
      case round =>
        clear hM hO1 hB1 hd0 hd1
        obtain ⟨j, A', c', hj, rfl, rfl, hO, hM, ⟨hc0, hc1⟩, hB⟩ := hrel
        have zb := hB.size
        by_cases hlt : j < m
        · obtain ⟨x, hx⟩ : ∃ x, ar[j]? = some x := ⟨_, List.getElem?_eq_getElem (by rw [HM.out]; exact hlt)⟩
          obtain ⟨ad, C0, c0, C1, c1, rfl, hadb, ⟨m0, m1, m2, m3, m4, m5⟩, hp1, hp2, hfit⟩ := row_Arc (hA.below hB) hx
          have hk0 : (0 : Int) ≤ (j : Int) := by omega
          have hkn : (j : Int) < (m : Int) := by omega
          obtain ⟨ks, hks⟩ : ∃ ks, (ar.take j).map wayK = ks := ⟨_, rfl⟩
          obtain ⟨E, hE⟩ : ∃ E, arcE n ks x = E := ⟨_, rfl⟩
          have HX := Lib.hid (HS.out.1 x (List.mem_of_getElem? hx))
          have hElen : E.length ≤ 1205 := by rw [← hE]; exact arcE_len _ _ _ HX.out.1 HX.out.2
          have HJ : Hid (E ≠ [] → j < 100) := Lib.hid fun h => HS.out.2 j x hx (by rw [hks, hE]; exact h)
          have HT : Hid (R (j + 1) = R j ++ E.map fun e => (⟨e, arcS j⟩ : Flt)) := Lib.hid (by rw [HRS.out j x hx]; unfold arFs; rw [hks, hE])
          have HKS : Hid ((ar.take (j + 1)).map wayK = ks ++ [wayK x]) := Lib.hid (by rw [take_snoc' hx, List.map_append, hks]; rfl)
          have hRj := HRL.out j
          rw [hks] at hM
          have lt0 := hO.lt w.heap.size (by simp)
          have lt2 := hO.lt b2 (by simp)
          clear hx hks
          go_upto_region 21 with fail
          obtain ⟨W, hW⟩ : ∃ W, wr.alloc (.cells #[.int .i64 x.frm, .int .i64 x.to, .int .i64 x.profile, .int .i64 x.miles, .slice C0 x.travel.length c0, .slice C1 x.slow.length c1] 51) = W := ⟨_, rfl⟩
          obtain ⟨P, hP'⟩ : ∃ P, wr.heap.size = P := ⟨_, rfl⟩
          have BW : Below wr.heap.size wr W := by rw [← hW]; exact (Below.refl _ _).alloc (Nat.le_refl _) _
          have hszW : W.heap.size = P + 1 := by rw [← hW, ← hP']; simp
          have hF6 : W.cell? ⟨P, 0, none⟩ = some (.int .i64 x.frm) ∧ W.cell? ⟨P, 1, none⟩ = some (.int .i64 x.to) ∧ W.cell? ⟨P, 2, none⟩ = some (.int .i64 x.profile) ∧ W.cell? ⟨P, 3, none⟩ = some (.int .i64 x.miles) ∧ W.cell? ⟨P, 4, none⟩ = some (.slice C0 x.travel.length c0) ∧ W.cell? ⟨P, 5, none⟩ = some (.slice C1 x.slow.length c1) := by
            rw [← hW, ← hP']
            refine ⟨?_, ?_, ?_, ?_, ?_, ?_⟩ <;> simp
          have hOW : OutP W (w.heap.size + 1) [P, b2, w.heap.size] A' c' (R j) := hO.more BW (by omega) (by omega)
          have hMW := hM.below BW
          have BWw : Below w.heap.size w W := hB.trans (BW.mono zb)
          have hcW : W.cell? ⟨w.heap.size, 0, none⟩ = some (.slice A0 n d0) ∧ W.cell? ⟨w.heap.size, 1, none⟩ = some (.slice (some ad) m d1) := ⟨(BW.cell (p := ⟨w.heap.size, 0, none⟩) lt0).trans hc0, (BW.cell (p := ⟨w.heap.size, 1, none⟩) lt0).trans hc1⟩
          have HA : Hid (Calls Tryz.prog 63 #[.agg #[.slice A0 n d0, .slice (some ad) m d1], .agg #[.int .i64 x.frm, .int .i64 x.to, .int .i64 x.profile, .int .i64 x.miles, .slice C0 x.travel.length c0, .slice C1 x.slow.length c1], .map (some b2)] W (ErrsOut W E)) := Lib.hid (by
            rw [← hE]
            exact arc_any n A0 d0 (some ad) m d1 x C0 c0 C1 c1 b2 j ks W ((hp1.below (BW.mono zb)).more BWw.size) ((hp2.below (BW.mono zb)).more BWw.size) hMW hfit HX.out.1 (by have := HX.out.2; omega))
          have hPl : w.heap.size < P := by omega
          have hWl : P < W.heap.size := by omega
          rw [hW, hP']
          have HF := Lib.hid (And.intro hfit (And.intro hF6 hcW))
          have HO := Lib.hid hOW
          have HMW := Lib.hid hMW
          clear hW hP' hE hO hM hc0 hc1 m0 m1 m2 m3 m4 m5 hp1 hp2 hfit hF6 hcW hOW hMW hszW
          obtain ⟨hfit, ⟨f0, f1, f2, f3, f4, f5⟩, hc0, hc1⟩ := HF.out
          go_wp2_with (go_at_call 63; refine HA.out.mono ?_; rintro e w1 ⟨Ae, ce, rfl, hownE, hb1⟩)
          have s1 := hb1.size
          obtain ⟨gE, hg1, hg2, hg3, hg4⟩ := row_place' P (by omega) hownE
          have hO1 : OutP w1 (w.heap.size + 1) [gE, P, b2, w.heap.size] A' c' (R j) := by
            rcases hg2 with rfl | hg2
            · exact (HO.out.below hb1).less (by simp)
            · exact HO.out.more hb1 hg2 hg1
          have HM1 := Lib.hid (HMW.out.below hb1)
          have hpB : P < W.heap.size := by omega
          have ltW : w.heap.size < W.heap.size := by omega
          have HF1 : Hid ((w1.cell? ⟨P, 0, none⟩ = some (.int .i64 x.frm) ∧ w1.cell? ⟨P, 1, none⟩ = some (.int .i64 x.to) ∧ w1.cell? ⟨P, 2, none⟩ = some (.int .i64 x.profile) ∧ w1.cell? ⟨P, 3, none⟩ = some (.int .i64 x.miles) ∧ w1.cell? ⟨P, 4, none⟩ = some (.slice C0 x.travel.length c0) ∧ w1.cell? ⟨P, 5, none⟩ = some (.slice C1 x.slow.length c1)) ∧ w1.cell? ⟨w.heap.size, 0, none⟩ = some (.slice A0 n d0) ∧ w1.cell? ⟨w.heap.size, 1, none⟩ = some (.slice (some ad) m d1)) := Lib.hid (by
            have hk := fun o => hb1.cell (p := ⟨P, o, none⟩) hpB
            have hk2 := fun o => hb1.cell (p := ⟨w.heap.size, o, none⟩) ltW
            exact ⟨⟨(hk _).trans f0, (hk _).trans f1, (hk _).trans f2, (hk _).trans f3, (hk _).trans f4, (hk _).trans f5⟩, (hk2 _).trans hc0, (hk2 _).trans hc1⟩)
          have HG4 := Lib.hid hg4
          have HO1 := Lib.hid hO1
          have B1 : Below w.heap.size w w1 := BWw.trans (hb1.mono (by omega))
          clear hownE hg4 hO1 f0 f1 f2 f3 f4 f5 hc0 hc1
          go_loopw [3, 76] (fun v k wr => ∃ (q : Nat) (A2 : Option Addr) (c2 : Nat), q ≤ E.length ∧ k = .int .i64 q ∧ v = .slice A2 ((R j).length + q) c2 ∧ Hid (OutP wr (w.heap.size + 1) [gE, P, b2, w.heap.size] A2 c2 (R j ++ (E.take q).map fun e => (⟨e, arcS j⟩ : Flt))) ∧ Hid (∀ p ∈ [gE, P, b2, w.heap.size], wr.heap[p]? = w1.heap[p]?) ∧ Below w.heap.size w wr) (fun _ k _ => E.length - (intOf k).toNat)
          case atStart => exact ⟨0, A', c', by omega, rfl, rfl, Lib.hid (by simpa using HO1.out), Lib.hid (fun p hp => rfl), B1⟩
          case round =>
            clear HO1
            obtain ⟨q, A2, c2, hq, rfl, rfl, hO2, hk2, hB2⟩ := hrel
            have zb2 := hB2.size
            by_cases hlq : q < E.length
            · obtain rfl := hg3 (by omega)
              obtain ⟨y, hy⟩ : ∃ y, E[q]? = some y := ⟨_, List.getElem?_eq_getElem hlq⟩
              have hcx : wr.cell? ⟨gE, q, none⟩ = some (.int .i64 y) := by have := HG4.out q hlq; rw [hy] at this; exact cell_heap (hk2.out gE (by simp)) this
              have hq0 : (0 : Int) ≤ (q : Int) := by omega
              have hqn : (q : Int) < (E.length : Int) := by omega
              have hj100 : j < 100 := HJ.out (by intro h; rw [h] at hlq; simp at hlq)
              have HL : Hid ((R j ++ (E.take q).map fun e => (⟨e, arcS j⟩ : Flt)).length = (R j).length + q) := Lib.hid (by rw [List.length_append, List.length_map, List.length_take]; omega)
              have HTK : Hid (R j ++ (E.take (q + 1)).map (fun e => (⟨e, arcS j⟩ : Flt)) = (R j ++ (E.take q).map fun e => (⟨e, arcS j⟩ : Flt)) ++ [⟨y, arcS j⟩]) := Lib.hid (by rw [take_snoc' hy, List.map_append, List.append_assoc]; rfl)
              obtain ⟨fs, hfs⟩ : ∃ fs, (R j ++ (E.take q).map fun e => (⟨e, arcS j⟩ : Flt)) = fs := ⟨_, rfl⟩
              rw [hfs] at hO2 HL HTK
              have hds := decS_size j
              have t1 : ¬ 9223372036854775807 < 4 + (decS j).size := by omega
              clear hy hfs
              go_wp2_with (first
                | (go_at_call 61; refine (dec_any j hj100 _).mono ?_; rintro e we ⟨rfl, rfl⟩)
                | (at_builtin; refine wpList_app fault_elem _ _ rfl (w.heap.size + 1) A2 ((R j).length + q) c2 (fcs fs) rfl (by have h := hO2.out.own.alloc (.cells #[.int .i64 y, .string (arcS j)] 37); rw [HL.out] at h; exact h) ⟨wr.heap.size, 0, none⟩ 1 [.int .i64 y, .string (arcS j)] rfl rfl (two_new wr (.int .i64 y) (.string (arcS j)) 37) (by simp [Value.oneCell']) (by omega) (by simp; omega) rfl ?_; intro g3 c3 w3 hown3 hg3 hd3))
              go_roundw
              case rel =>
                have hp := hO2.out.push (f := ⟨y, arcS j⟩) (w1 := wr.alloc (.cells #[.int .i64 y, .string (arcS j)] 37)) ((Below.refl _ _).alloc (Nat.le_refl _) _) (by rw [HL.out]; exact hown3) (by rw [HL.out]; exact hg3) (by rw [HL.out]; exact hd3)
                exact ⟨q + 1, some ⟨g3, 0, none⟩, c3, by omega, by go_num, rfl, Lib.hid (by rw [HTK.out]; exact hp.1), Lib.hid (fun p hp' => (hp.2 p hp').trans (hk2.out p hp')), (hB2.alloc zb2 _).grown hg3 (by simp; omega) (fun k e => by have := (World.ownsRow.lt hO2.out.own _ (by rw [HL.out]; exact e)).1; omega)⟩
              case measure => simp [intOf]; omega
            · have hqE : q = E.length := by omega
              subst hqE
              have HE : Hid (R j ++ (E.take E.length).map (fun e => (⟨e, arcS j⟩ : Flt)) = R (j + 1)) := Lib.hid (by rw [List.take_of_length_le (Nat.le_refl _), HT.out])
              rw [HE.out] at hO2
              have HL : Hid ((R (j + 1)).length = (R j).length + E.length) := Lib.hid (by rw [HT.out, List.length_append, List.length_map])
              have ek := hk2.out P (by simp)
              have ek0 := hk2.out w.heap.size (by simp)
              have HM2 := Lib.hid (marks_heap HM1.out (hk2.out b2 (by simp)))
              obtain ⟨⟨a0, a1, a2, a3, a4, a5⟩, a6, a7⟩ := HF1.out
              have g0 := cell_heap ek a0
              have g1 := cell_heap ek a1
              have g2 := cell_heap ek a2
              have g3 := cell_heap ek a3
              have g4 := cell_heap ek a4
              have g5 := cell_heap ek a5
              have HC := Lib.hid (And.intro (cell_heap ek0 a6) (cell_heap ek0 a7))
              clear a0 a1 a2 a3 a4 a5 a6 a7 ek ek0
              go_wp2_with (first
                | (go_at_call 64; refine (wayOf_any x C0 c0 C1 c1 _).mono ?_; rintro e w9 ⟨rfl, hb9⟩)
                | (at_mapUpdate; refine wpList_mark_set wayE rfl _ _ _ rfl b2 j ks rfl (HM2.out.below hb9) (wayK x) rfl rfl (wayOk_of hfit) (by unfold maxLen; omega) ?_; intro w4 hM4 hg4))
              have hO9 := (hO2.out.below hb9).kept (b := b2) (by simp) hg4
              have lt0 := hO2.out.lt w.heap.size (by simp)
              have s9 := hb9.size
              have ek0 : w4.heap[w.heap.size]? = wr.heap[w.heap.size]? := (hg4.block w.heap.size (by omega) (fun e => by injection e with e; omega)).trans (hb9.block _ lt0)
              go_roundw
              case rel => exact ⟨j + 1, A2, c2, by omega, by go_num, by rw [HL.out], hO9.less (by simp), by rw [HKS.out]; exact hM4, ⟨cell_heap ek0 HC.out.1, cell_heap ek0 HC.out.2⟩, (hB2.trans (hb9.mono zb2)).grown hg4 (by omega) (fun k e => by injection e with e; omega)⟩
              case measure => simp [intOf]; omega
        · have hjm : m = j := by omega
          subst hjm
          clear hc0 hc1 hlt hM
          go_wp2
          go_ret
          exact ⟨A', c', rfl, own_less hO.own (by omega), hB⟩
end Go.Proofs.YtceceomaheobhaaGreatDoor.net
