/- The reference's named, pairs. -/
import Derived.Test.YtceceomaheobhaaSpQ
import Derived.Deep.DeepCutAuto
import Derived.Deep.QuietTactic
import Derived.BigQuiet
namespace Go.Proofs.Ytceceomaheobhaa.spl
open Go.RowKit
open Go.Proofs.Ytceceomaheobhaa.lib Go.Proofs.Ytceceomaheobhaa.rd Go.Proofs.Ytceceomaheobhaa.app Go.Proofs.Ytceceomaheobhaa.typ Go.Proofs.Ytceceomaheobhaa.eqg Go.Proofs.Ytceceomaheobhaa.ren Go.Proofs.Ytceceomaheobhaa.note
set_option linter.unusedVariables false
set_option linter.unusedSimpArgs false

set_option maxRecDepth 20000 in
set_option maxHeartbeats 1000000 in
theorem rnamed_any (u0 u1 u2 u4 u5 : Value) (os ahead : List Ord) (A A' : Option Addr) (c c' : Nat) (nm : ByteArray) (w : World) (h : RowAt rOrd w w.heap.size A os) (h' : RowAt rOrd w w.heap.size A' ahead) :
    Calls Try.prog 32 #[.agg #[u0, u1, u2, .slice A os.length c, u4, u5], .slice A' ahead.length c', .string nm] w fun e w' => e = .returned (.int .i64 (namedE os ahead nm)) ∧ Below w.heap.size w w' := by
  obtain ⟨R1, hR1⟩ : ∃ R, (ahead.any fun x => sameS x.name nm) = R := ⟨_, rfl⟩
  obtain ⟨R2, hR2⟩ : ∃ R, (os.any fun x => sameS x.name nm) = R := ⟨_, rfl⟩
  have HE : Hid (namedE os ahead nm = if 16 < nm.size then 5 else if R1 || R2 then 6 else 0) := Lib.hid (by unfold namedE; rw [hR1, hR2])
  have HR1 : Hid ((ahead.drop 0).any (fun x => sameS x.name nm) = R1) := Lib.hid hR1
  have HR2 : Hid ((os.drop 0).any (fun x => sameS x.name nm) = R2) := Lib.hid hR2
  have hln := h.len
  have hlm := h'.len
  have H1 := Lib.hid h
  have H2 := Lib.hid h'
  obtain ⟨n, hn⟩ : ∃ n, os.length = n := ⟨_, rfl⟩
  obtain ⟨m, hm⟩ : ∃ n, ahead.length = n := ⟨_, rfl⟩
  rw [hn] at hln
  rw [hm] at hlm
  rw [hn, hm]
  have HN := Lib.hid (And.intro hn hm)
  clear hR1 hR2 h h' hn hm
  obtain ⟨W0, hW0⟩ : ∃ W0, w.alloc (.cells #[u0, u1, u2, .slice A n c, u4, u5] 38) = W0 := ⟨_, rfl⟩
  have hB0 : Below w.heap.size w W0 := by rw [← hW0]; exact (Below.refl _ _).alloc (Nat.le_refl _) _
  have z0 := hB0.size
  have h3 : W0.cell? ⟨w.heap.size, 3, none⟩ = some (.slice A n c) := by
    rw [← hW0]
    have h := World.alloc_heap_new w (.cells #[u0, u1, u2, .slice A n c, u4, u5] 38)
    unfold World.cell?
    rw [h]
    rfl
  have HW0 := Lib.hid hW0
  clear hW0
  by_cases h16 : 16 < nm.size
  · go_enter Try.func32, Try.ntmps32
    go_wp2
    go_ret
    exact ⟨by rw [HE.out, if_pos h16]; rfl, (Below.refl _ _).alloc (Nat.le_refl _) _⟩
  have HE2 : Hid (namedE os ahead nm = if R1 || R2 then 6 else 0) := Lib.hid (by rw [HE.out, if_neg h16])
  go_enter Try.func32, Try.ntmps32
  go_upto_region 4 with fail
  rw [HW0.out]
  go_loopw [7] (fun i wr => ∃ k : Nat, k ≤ n ∧ i = .int .i64 k ∧ Hid ((os.drop k).any (fun x => sameS x.name nm) = R2) ∧ W0 = wr) (fun i _ => n - (intOf i).toNat)
  case atStart => exact ⟨0, by omega, rfl, HR2, rfl⟩
  case round =>
    obtain ⟨k, hk, rfl, hr, rfl⟩ := hrel
    by_cases hlt : k < n
    · obtain ⟨x, hx⟩ : ∃ x, os[k]? = some x := ⟨_, List.getElem?_eq_getElem (by rw [HN.out.1]; exact hlt)⟩
      obtain ⟨ad, C0, c0, rfl, hadb, ⟨m0, -⟩, -, -⟩ := row_Ord (H1.out.below hB0) hx
      have hst := Lib.hid (any_at (p := fun x : Ord => sameS x.name nm) hx)
      have hk0 : (0 : Int) ≤ (k : Int) := by omega
      have hkn : (k : Int) < (n : Int) := by omega
      clear hx
      cases hs : (x.name.toList == nm.toList)
      · have HT : Hid ((os.drop (k + 1)).any (fun x => sameS x.name nm) = R2) := Lib.hid (by have h := hst.out; rw [hr.out, show sameS x.name nm = false from hs] at h; exact h.symm)
        go_wp2
        exact ⟨⟨k + 1, by omega, by go_num, HT, by first | rfl | exact trivial⟩, by simp [intOf]; omega⟩
      · have HT : Hid (R2 = true) := Lib.hid (by rw [← hr.out, hst.out, show sameS x.name nm = true from hs]; rfl)
        go_wp2
        go_ret
        exact ⟨by rw [HE2.out, HT.out]; first | (simp; done) | (simp; rfl), hB0⟩
    · have HT : Hid (R2 = false) := Lib.hid (by rw [← hr.out, any_end (by rw [HN.out.1]; omega)])
      have HE3 : Hid (namedE os ahead nm = if R1 then 6 else 0) := Lib.hid (by rw [HE2.out, HT.out, Bool.or_false])
      go_upto_region 9 with fail
      clear h3
      go_loopw [8] (fun i wr => ∃ k : Nat, k ≤ m ∧ i = .int .i64 k ∧ Hid ((ahead.drop k).any (fun x => sameS x.name nm) = R1) ∧ W0 = wr) (fun i _ => m - (intOf i).toNat)
      case atStart => exact ⟨0, by omega, rfl, HR1, rfl⟩
      case round =>
        obtain ⟨j, hj, rfl, hr1, rfl⟩ := hrel
        by_cases hlj : j < m
        · obtain ⟨x, hx⟩ : ∃ x, ahead[j]? = some x := ⟨_, List.getElem?_eq_getElem (by rw [HN.out.2]; exact hlj)⟩
          obtain ⟨ad, C0, c0, rfl, hadb, ⟨m0, -⟩, -, -⟩ := row_Ord (H2.out.below hB0) hx
          have hst := Lib.hid (any_at (p := fun x : Ord => sameS x.name nm) hx)
          have hj0 : (0 : Int) ≤ (j : Int) := by omega
          have hjm : (j : Int) < (m : Int) := by omega
          clear hx
          cases hs : (x.name.toList == nm.toList)
          · have HT1 : Hid ((ahead.drop (j + 1)).any (fun x => sameS x.name nm) = R1) := Lib.hid (by have h := hst.out; rw [hr1.out, show sameS x.name nm = false from hs] at h; exact h.symm)
            go_wp2
            exact ⟨⟨j + 1, by omega, by go_num, HT1, by first | rfl | exact trivial⟩, by simp [intOf]; omega⟩
          · have HT1 : Hid (R1 = true) := Lib.hid (by rw [← hr1.out, hst.out, show sameS x.name nm = true from hs]; rfl)
            go_wp2
            go_ret
            exact ⟨by rw [HE3.out, HT1.out]; first | rfl | (simp; done) | (simp; rfl), hB0⟩
        · have HT1 : Hid (R1 = false) := Lib.hid (by rw [← hr1.out, any_end (by rw [HN.out.2]; omega)])
          go_wp2
          go_ret
          exact ⟨by rw [HE3.out, HT1.out]; first | rfl | (simp; done) | (simp; rfl), hB0⟩
/-- Where pairs stands. -/
structure PrSt (w : World) (u : List (Int × Int)) (A : Option Addr) (c : Nat) (wr : World) : Prop where
  own : wr.ownsRow w.heap.size 76 2 (.slice A u.length c) u.length (tcs u)
  bel : Below w.heap.size w wr
theorem PrSt.push {w : World} {y : Int × Int} {u : List (Int × Int)} {A : Option Addr} {c g c' : Nat} {wr w' : World} {cs : Array Value} {t : TypeId} (h : PrSt w u A c wr)
    (hown : w'.ownsRow w.heap.size 76 2 (.slice (some ⟨g, 0, none⟩) (u.length + 1) c') (u.length + 1) (tcs u ++ [.int .i64 y.1, .int .i64 y.2]))
    (hg : (wr.alloc (.cells cs t)).grownBy w' (Value.slice A u.length c).ownBlock) : PrSt w (u ++ [y]) (some ⟨g, 0, none⟩) c' w' := by
  have e1 : (wr.alloc (.cells cs t)).heap.size = wr.heap.size + 1 := by simp
  refine ⟨?_, ?_⟩
  · rw [List.length_append, tcs_snoc]
    exact hown
  · exact (h.bel.alloc h.bel.size _).grown hg (by have := h.bel.size; omega) (fun q e => (World.ownsRow.lt h.own q e).1)
theorem PrSt.drew {w : World} {u : List (Int × Int)} {A : Option Addr} {c : Nat} {wr : World} (h : PrSt w u A c wr) (k : Nat) : PrSt w u A c (wr.drewN k) := ⟨own_below h.own (bel_drewN (Below.refl _ _) _), bel_drewN h.bel _⟩
def PairsOut (w : World) (u : List (Int × Int)) (e : Ending) (w' : World) : Prop := ∃ A c, e = .returned (.slice A u.length c) ∧ w'.ownsRow w.heap.size 76 2 (.slice A u.length c) u.length (tcs u) ∧ Below w.heap.size w w'
set_option maxRecDepth 20000 in
set_option maxHeartbeats 4000000 in
theorem rpairs_any (A : Option Addr) (c : Nat) (ps : List (Int × Int)) (A' : Option Addr) (c' : Nat) (l : List Int) (w : World) (hL : RowAt (rPair rInt rInt) w w.heap.size A ps) (hO : Ints w w.heap.size A' l) (hps : ps.length ≤ 10000) (hl : l.length ≤ 100) :
    Calls Try.prog 33 #[.slice A ps.length c, .slice A' l.length c'] w (PairsOut w (sprP ps l ps.length)) := by
  obtain ⟨n, hn⟩ : ∃ n, ps.length = n := ⟨_, rfl⟩
  obtain ⟨m, hm⟩ : ∃ n, l.length = n := ⟨_, rfl⟩
  have HN := Lib.hid (And.intro hn hm)
  have HLEN : Hid (∀ k p a b x, k ≤ n → a ≤ m → b ≤ m → (sprP ps l k ++ (sprA p l a ++ sprB p a x l b)).length ≤ 200000000) := Lib.hid fun k p a b x hk ha hb => by
    have h1 := sprP_len ps l hl k
    have h2 := sprA_len p l hl a
    have h3 := sprB_len p a x l b
    rw [List.length_append, List.length_append]
    omega
  rw [hn, hm]
  rw [hn] at hps
  rw [hm] at hl
  have HI := Lib.hid (And.intro hL hO)
  clear hn hm hL hO
  go_enter Try.func33, Try.ntmps33
  go_wp2
  go_loopw [5, 6, 7, 8] (fun v i _ _ wr => ∃ (k : Nat) (u : List (Int × Int)) (A2 : Option Addr) (c2 : Nat), k ≤ n ∧ i = .int .i64 k ∧ Hid (u = sprP ps l k) ∧ v = .slice A2 u.length c2 ∧ Hid (PrSt w u A2 c2 wr)) (fun _ i _ _ _ => n - (intOf i).toNat)
  case atStart => exact ⟨0, [], none, 0, by omega, rfl, Lib.hid rfl, rfl, Lib.hid ⟨World.ownsRow_nil _ _ _ _, Below.refl _ _⟩⟩
  case round =>
    obtain ⟨k, u, A2, c2, hk, rfl, hu, rfl, HS⟩ := hrel
    by_cases hlt : k < n
    · obtain ⟨p, hp⟩ : ∃ p, ps[k]? = some p := ⟨_, List.getElem?_eq_getElem (by rw [HN.out.1]; exact hlt)⟩
      have HP := Lib.hid hp
      have hk0 : (0 : Int) ≤ (k : Int) := by omega
      have hkn : (k : Int) < (n : Int) := by omega
      have HT : Hid (sprP ps l (k + 1) = sprP ps l k ++ sprA p l m) := Lib.hid (by rw [sprP_succ hp, HN.out.2])
      clear hp
      go_upto_region 6 with fail
      go_loopw [5, 7, 8] (fun v i _ wr => ∃ (a : Nat) (u2 : List (Int × Int)) (A3 : Option Addr) (c3 : Nat), a ≤ m ∧ i = .int .i64 a ∧ Hid (u2 = u ++ sprA p l a) ∧ v = .slice A3 u2.length c3 ∧ Hid (PrSt w u2 A3 c3 wr)) (fun _ i _ _ => m - (intOf i).toNat)
      case atStart => exact ⟨0, u, A2, c2, by omega, rfl, Lib.hid (by rw [sprA, List.append_nil]), rfl, HS⟩
      case round =>
        obtain ⟨a, u2, A3, c3, ha, rfl, hu2, rfl, HS2⟩ := hrel
        by_cases hla : a < m
        · obtain ⟨x, hx⟩ : ∃ x, l[a]? = some x := ⟨_, List.getElem?_eq_getElem (by rw [HN.out.2]; exact hla)⟩
          have HX := Lib.hid hx
          have ha0 : (0 : Int) ≤ (a : Int) := by omega
          have ham : (a : Int) < (m : Int) := by omega
          have HT2 : Hid (sprA p l (a + 1) = sprA p l a ++ sprB p a x l m) := Lib.hid (by rw [sprA_succ hx, HN.out.2])
          clear hx
          go_upto_region 9 with fail
          go_loopw [5, 8] (fun v i wr => ∃ (b : Nat) (u3 : List (Int × Int)) (A4 : Option Addr) (c4 : Nat), b ≤ m ∧ i = .int .i64 b ∧ Hid (u3 = u2 ++ sprB p a x l b) ∧ v = .slice A4 u3.length c4 ∧ Hid (PrSt w u3 A4 c4 wr)) (fun _ i _ => m - (intOf i).toNat)
          case atStart => exact ⟨0, u2, A3, c3, by omega, rfl, Lib.hid (by rw [sprB, List.append_nil]), rfl, HS2⟩
          case round =>
            obtain ⟨b, u3, A4, c4, hb, rfl, hu3, rfl, HS3⟩ := hrel
            by_cases hlb : b < m
            · obtain ⟨ad1, x', rfl, hadb1, hx', hcx⟩ := (HI.out.2.below HS3.out.bel).at_ (k := a) (by rw [HN.out.2]; exact hla)
              obtain rfl : x' = x := by have h := HX.out; rw [hx'] at h; exact Option.some.inj h
              obtain ⟨ad2, y, hA2, hadb2, hy, hcy⟩ := (HI.out.2.below HS3.out.bel).at_ (k := b) (by rw [HN.out.2]; exact hlb)
              obtain rfl := Option.some.inj hA2
              obtain ⟨ad, rfl, hadb, ⟨m0, m1⟩, _⟩ := row_Two (HI.out.1.below HS3.out.bel) HP.out
              have hb0 : (0 : Int) ≤ (b : Int) := by omega
              have hbm : (b : Int) < (m : Int) := by omega
              have HT3 : Hid (sprB p a x' l (b + 1) = sprB p a x' l b ++ sprAt p a x' b y) := Lib.hid (sprB_succ hy)
              have hlen : u3.length ≤ 200000000 := by
                rw [hu3.out, hu2.out, hu.out, List.append_assoc]
                exact HLEN.out k p a b x' (by omega) (by omega) (by omega)
              have hz3 := HS3.out.bel.size
              clear hy hA2 hx'
              by_cases h1 : x' = p.1 ∧ y = p.2
              · have HE : Hid (sprB p a x' l (b + 1) = sprB p a x' l b ++ [((a : Int), (b : Int))]) := Lib.hid (by rw [HT3.out]; unfold sprAt; rw [if_pos h1])
                have e1 : (x' == p.1) = true := by simp [h1.1]
                have e2 : (y == p.2) = true := by simp [h1.2]
                clear h1
                go_upto_region 11 with fail
                go_quiet (fail)
                clear hcx hcy m0 m1
                rename Nat => nq
                have HS4 := Lib.hid (HS3.out.drew nq)
                go_wp2_with (at_builtin; go_loud (refine wpList_app two_elem _ _ rfl w.heap.size A4 u3.length c4 (tcs u3) rfl (HS4.out.own.alloc _) ⟨(wr.drewN nq).heap.size, 0, none⟩ 1 [.int .i64 a, .int .i64 b] rfl rfl (two_new _ _ _ _) (by simp [Value.oneCell']) (by omega) (by simp; omega) rfl ?_); intro g5 c5 w5 hown5 hg5 hx5; have HK5 := Lib.hid (HS4.out.push (y := ((a : Int), (b : Int))) hown5 hg5); clear hown5 hg5 hx5)
                refine ⟨⟨b + 1, u3 ++ [((a : Int), (b : Int))], some ⟨g5, 0, none⟩, c5, by omega, by go_num, Lib.hid (by rw [HE.out, hu3.out, List.append_assoc]), by rw [List.length_append]; rfl, HK5⟩, by simp [intOf]; omega⟩
              · have HE : Hid (sprB p a x' l (b + 1) = sprB p a x' l b) := Lib.hid (by rw [HT3.out]; unfold sprAt; rw [if_neg h1, List.append_nil])
                by_cases h2 : x' = p.1
                · have e1 : (x' == p.1) = true := by simp [h2]
                  have e2 : (y == p.2) = false := by
                    have h3 : ¬ y = p.2 := fun h => h1 ⟨h2, h⟩
                    simp [h3]
                  clear h1 h2
                  go_upto_region 11 with fail
                  go_quiet (fail)
                  go_wp2
                  exact ⟨⟨b + 1, u3, A4, c4, by omega, by go_num, Lib.hid (by rw [HE.out, hu3.out]), rfl, Lib.hid (HS3.out.drew _)⟩, by simp [intOf]; omega⟩
                · have e1 : (x' == p.1) = false := by simp [h2]
                  clear h1 h2
                  go_upto_region 11 with fail
                  go_quiet (fail)
                  go_wp2
                  exact ⟨⟨b + 1, u3, A4, c4, by omega, by go_num, Lib.hid (by rw [HE.out, hu3.out]), rfl, Lib.hid (HS3.out.drew _)⟩, by simp [intOf]; omega⟩
            · have hbm : b = m := by omega
              subst hbm
              clear hlb
              go_wp2
              refine ⟨⟨a + 1, u3, A4, c4, by omega, by go_num, Lib.hid (by rw [HT2.out, hu3.out, hu2.out, List.append_assoc]), rfl, HS3⟩, by simp [intOf]; omega⟩
        · have ham : a = m := by omega
          subst ham
          clear hla
          go_wp2
          refine ⟨⟨k + 1, u2, A3, c3, by omega, by go_num, Lib.hid (by rw [HT.out, hu2.out, hu.out]), rfl, HS2⟩, by simp [intOf]; omega⟩
    · have hkn : k = n := by omega
      subst hkn
      clear hlt
      go_wp2
      go_ret
      rw [show sprP ps l k = u from hu.out.symm]
      exact ⟨A2, c2, rfl, HS.out.own, HS.out.bel⟩
end Go.Proofs.Ytceceomaheobhaa.spl
