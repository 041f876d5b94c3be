/- event.read: numbers. -/
import Derived.Test.YtofabhenmplkoaaGreatDoorPrsP
namespace Go.Proofs.YtofabhenmplkoaaGreatDoor.evt
open Go.RowKit
open Go.Proofs.YtofabhenmplkoaaGreatDoor.lib Go.Proofs.YtofabhenmplkoaaGreatDoor.rd Go.Proofs.YtofabhenmplkoaaGreatDoor.app Go.Proofs.YtofabhenmplkoaaGreatDoor.els Go.Proofs.YtofabhenmplkoaaGreatDoor.typ Go.Proofs.YtofabhenmplkoaaGreatDoor.big Go.Proofs.YtofabhenmplkoaaGreatDoor.ins Go.Proofs.YtofabhenmplkoaaGreatDoor.ord Go.Proofs.YtofabhenmplkoaaGreatDoor.gen
open Go.Proofs.YtofabhenmplkoaaGreatDoor.txt (in64 By strV strV_of joinS decW decW_any Tabs elem_str nameB name_any toList_data Strs numL number_any ret_nn)
set_option linter.unusedVariables false
set_option linter.unusedSimpArgs false

/-- What read answers. -/
def RdOut (w : World) (L : List By) (en : Ending) (w' : World) : Prop := Below w.heap.size w w' ∧
  ((readF L = none ∧ en = .returned (.tuple #[.slice none 0 0, .bool false])) ∨ ∃ (l : List Int) (A : Option Addr) (c n : Nat), readF L = some l ∧ n = l.length ∧ en = .returned (.tuple #[.slice A n c, .bool true]) ∧ IOwn w' w.heap.size A c l)
theorem readF_drop {L : List By} {k : Nat} {x : By} (h : L[k]? = some x) : readF (L.drop k) = if (numL x).2 = 0 then (match readF (L.drop (k + 1)) with | none => none | some l => some ((numL x).1 :: l)) else none := by
  rw [drop_at' h]
  rfl
theorem push_i {ops : Array Oper} {rest : List Oper} {o : Oper} {a : Act} {Q : Exit → Act → World → Prop} {w : World} (hgd : o.guard = none) (s x : Operand)
    (ho : o.op = .call { callee := .builtin .append, args := #[s, x], argTypes := #[31, 31] })
    (base n c : Nat) (A : Option Addr) (l : List Int) (hn : n = l.length) (hs : a.eval s = .slice A n c) (hown : IOwn w base A c l)
    (u : Int) (hx : a.eval x = .slice (some ⟨w.heap.size, 0, none⟩) 1 1) (hl : n < 1000000) (hbase : base ≤ w.heap.size)
    (h : ∀ A' c' w', IOwn w' base A' c' (l ++ [u]) → Below base w w' → wpList Tryz.prog ops Q rest (a.put o.dst (.slice A' (n + 1) c')) w') :
    wpList Tryz.prog ops Q (o :: rest) a (w.alloc (.cells #[.int .i64 u] 3)) := by
  subst hn
  refine push_int hgd s x ho base (.slice A l.length c) l.length l hs hown u hx (by omega) hbase ?_
  intro A' c' w1 h1 h2 _
  refine h A' c' w1 ?_ h2
  unfold IOwn
  rw [List.length_append]
  exact h1
set_option maxRecDepth 20000 in
theorem read_any (L : List By) (A : Option Addr) (n c : Nat) (hn : n = L.length) (w : World) (hL : Strs w w.heap.size A L) (hm : ∀ x ∈ L, x.length ≤ 100000) (ht : Tabs w) : Calls Tryz.prog 130 #[.slice A n c] w (RdOut w L) := by
  have HL := Lib.hid hL
  have HM := Lib.hid hm
  have HN := Lib.hid hn
  have hnb : n ≤ 1000000 := by rw [hn]; exact hL.2
  have HT := Lib.hid ht
  clear hL hm hn ht
  go_enter Tryz.func130, Tryz.ntmps130
  go_upto_region 3 with fail
  go_loopw [4, 11] (fun ov iv wr => Below w.heap.size w wr ∧ ∃ (k d : Nat) (B : Option Addr) (l : List Int), k ≤ n ∧ iv = .int .i64 k ∧ ov = .slice B k d ∧ Hid (k = l.length) ∧ Hid (IOwn wr w.heap.size B d l) ∧ Hid (readF L = (readF (L.drop k)).map (l ++ ·))) (fun _ iv _ => n - (intOf iv).toNat)
  case atStart => exact ⟨Below.refl _ _, 0, 0, none, [], by omega, rfl, rfl, Lib.hid rfl, Lib.hid (World.ownsRow_nil _ _ _ _), Lib.hid (by rw [List.drop_zero]; cases readF L <;> simp)⟩
  case round =>
    obtain ⟨hb, k, d, B, l, hk, rfl, rfl, hkl, hO, hR⟩ := hrel
    have hbz := hb.size
    by_cases hlt : k < n
    · obtain ⟨ad, x, hA, hadb, hx, hcell⟩ := (HL.out.below hb).at_ (k := k) (by rw [← HN.out]; exact hlt)
      subst hA
      have hxm : x.length ≤ 100000 := HM.out x (List.mem_of_getElem? hx)
      have HX := Lib.hid hx
      have HT1 := Lib.hid (HT.out.below hb)
      have hst := Lib.hid (readF_drop hx)
      clear hx
      obtain ⟨v, hv⟩ : ∃ v, (numL x).1 = v := ⟨_, rfl⟩
      obtain ⟨f, hf⟩ : ∃ f, (numL x).2 = f := ⟨_, rfl⟩
      have HV := Lib.hid hv
      have HF := Lib.hid hf
      have hnum : ∀ w', Tabs w' → Calls Tryz.prog 128 #[.string ⟨x.toArray⟩] w' fun e w'' => e = .returned (.tuple #[.int .i64 v, .int .i64 f]) ∧ Below w'.heap.size w' w'' := fun w' h => by
        have h1 := number_any ⟨x.toArray⟩ (by show x.toArray.size ≤ _; simp; omega) w' h
        have e : (⟨x.toArray⟩ : ByteArray).data.toList = x := rfl
        rw [e, hv, hf] at h1
        exact h1
      clear hv hf
      by_cases hf0 : f = 0
      · subst hf0
        have HR2 : Hid (readF L = (readF (L.drop (k + 1))).map ((l ++ [v]) ++ ·)) := Lib.hid (by
          rw [hR.out, hst.out, if_pos HF.out, HV.out]
          cases readF (L.drop (k + 1)) <;> simp)
        clear hR
        go_wp2_with (first
          | (go_at_call 128; refine (hnum _ HT1.out).mono ?_; rintro e2 w2 ⟨rfl, hb2⟩; have y2 := hb2.size)
          | (at_builtin; refine push_i rfl _ _ rfl w.heap.size k d B l hkl.out rfl (hO.out.below hb2) v rfl (by omega) (by omega) ?_; intro B3 d3 w3 hO3 hb3))
        go_roundw
        case rel => exact ⟨hb.trans ((hb2.mono hbz).trans hb3), k + 1, d3, B3, l ++ [v], by omega, by go_num, rfl, Lib.hid (by rw [List.length_append, ← hkl.out]; rfl), Lib.hid hO3, HR2⟩
        case measure => simp [intOf]; omega
      · have hf1 : (f != 0) = true := by simpa using hf0
        have HR2 : Hid (readF L = none) := Lib.hid (by rw [hR.out, hst.out, if_neg (by rw [HF.out]; exact hf0)]; rfl)
        go_wp2_with (go_at_call 128; refine (hnum _ HT1.out).mono ?_; rintro e2 w2 ⟨rfl, hb2⟩)
        refine bodyPost_ret (v := .tuple #[.slice none 0 0, .bool false]) (by simp [results, Tryz.results130, go_sem]) rfl ?_
        exact ⟨hb.trans (hb2.mono hbz), .inl ⟨HR2.out, rfl⟩⟩
    · have HR2 : Hid (readF L = some l) := Lib.hid (by
        rw [hR.out, List.drop_of_length_le (by rw [← HN.out]; omega)]
        simp [readF])
      go_wp2
      refine bodyPost_ret (v := .tuple #[.slice B k d, .bool true]) (by simp [results, Tryz.results130, go_sem]) rfl ?_
      exact ⟨hb, .inr ⟨l, B, d, k, HR2.out, hkl.out, rfl, hO.out⟩⟩
end Go.Proofs.YtofabhenmplkoaaGreatDoor.evt
