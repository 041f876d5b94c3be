/- split.spread. -/
import Derived.Test.YtceceomaheobhaaBase
import Derived.Test.YtceceomaheobhaaRenA
import Derived.Deep.DeepCutAuto
namespace Go.Proofs.Ytceceomaheobhaa.spl
open Go.RowKit
open Go.Proofs.Ytceceomaheobhaa.lib Go.Proofs.Ytceceomaheobhaa.rd Go.Proofs.Ytceceomaheobhaa.app Go.Proofs.Ytceceomaheobhaa.typ Go.Proofs.Ytceceomaheobhaa.eqg Go.Proofs.Ytceceomaheobhaa.ren
set_option linter.unusedVariables false
set_option linter.unusedSimpArgs false

def sprAt (p : Int × Int) (a : Nat) (x : Int) (b : Nat) (y : Int) : List (Int × Int) := if x = p.1 ∧ y = p.2 then [((a : Int), (b : Int))] else []
/-- The pairs of one origin with the first b ones. -/
def sprB (p : Int × Int) (a : Nat) (x : Int) (l : List Int) : Nat → List (Int × Int)
  | 0 => []
  | b + 1 => sprB p a x l b ++ (match l[b]? with | some y => sprAt p a x b y | none => [])
def sprA (p : Int × Int) (l : List Int) : Nat → List (Int × Int)
  | 0 => []
  | a + 1 => sprA p l a ++ (match l[a]? with | some x => sprB p a x l l.length | none => [])
def sprP (ps : List (Int × Int)) (l : List Int) : Nat → List (Int × Int)
  | 0 => []
  | k + 1 => sprP ps l k ++ (match ps[k]? with | some p => sprA p l l.length | none => [])
theorem sprB_succ {p : Int × Int} {a : Nat} {x : Int} {l : List Int} {b : Nat} {y : Int} (h : l[b]? = some y) : sprB p a x l (b + 1) = sprB p a x l b ++ sprAt p a x b y := by rw [sprB, h]
theorem sprA_succ {p : Int × Int} {l : List Int} {a : Nat} {x : Int} (h : l[a]? = some x) : sprA p l (a + 1) = sprA p l a ++ sprB p a x l l.length := by rw [sprA, h]
theorem sprP_succ {ps : List (Int × Int)} {l : List Int} {k : Nat} {p : Int × Int} (h : ps[k]? = some p) : sprP ps l (k + 1) = sprP ps l k ++ sprA p l l.length := by rw [sprP, h]
theorem sprB_len (p : Int × Int) (a : Nat) (x : Int) (l : List Int) : ∀ b, (sprB p a x l b).length ≤ b
  | 0 => by simp [sprB]
  | b + 1 => by
    have ih := sprB_len p a x l b
    rw [sprB, List.length_append]
    have : (match l[b]? with | some y => sprAt p a x b y | none => []).length ≤ 1 := by
      split
      · unfold sprAt; split <;> simp
      · simp
    omega
theorem sprA_len (p : Int × Int) (l : List Int) (hl : l.length ≤ 100) : ∀ a, (sprA p l a).length ≤ a * 100
  | 0 => by simp [sprA]
  | a + 1 => by
    have ih := sprA_len p l hl a
    rw [sprA, List.length_append]
    have : (match l[a]? with | some x => sprB p a x l l.length | none => []).length ≤ 100 := by
      split
      · have := sprB_len p a ‹Int› l l.length; omega
      · simp
    omega
theorem sprP_len (ps : List (Int × Int)) (l : List Int) (hl : l.length ≤ 100) : ∀ k, (sprP ps l k).length ≤ k * 10000
  | 0 => by simp [sprP]
  | k + 1 => by
    have ih := sprP_len ps l hl k
    rw [sprP, List.length_append]
    have : (match ps[k]? with | some p => sprA p l l.length | none => []).length ≤ 10000 := by
      split
      · have := sprA_len ‹Int × Int› l hl l.length; omega
      · simp
    omega
/-- Where spread stands: the pairs u in a row of its own, the pair x in its box b. -/
structure SprSt (w : World) (b : Nat) (x : Int × Int) (u : List (Int × Int)) (A : Option Addr) (c : Nat) (wr : World) : Prop where
  own : wr.ownsRow w.heap.size 76 2 (.slice A u.length c) u.length (tcs u)
  ne : (Value.slice A u.length c).ownBlock ≠ some b
  box : wr.heap[b]? = some (.cells #[.int .i64 x.1, .int .i64 x.2] 76)
  bel : Below w.heap.size w wr
theorem SprSt.cells {w : World} {b : Nat} {x : Int × Int} {u : List (Int × Int)} {A : Option Addr} {c : Nat} {wr : World} (h : SprSt w b x u A c wr) : wr.cell? ⟨b, 0, none⟩ = some (.int .i64 x.1) ∧ wr.cell? ⟨b, 1, none⟩ = some (.int .i64 x.2) := by
  have e := h.box
  constructor
  all_goals
    unfold World.cell?
    rw [e]
    rfl
theorem SprSt.push {w : World} {b : Nat} {x y : Int × Int} {u : List (Int × Int)} {A : Option Addr} {c g c' : Nat} {wr w' : World} {cs : Array Value} {t : TypeId} (h : SprSt w b x u A c wr)
    (hown : w'.ownsRow w.heap.size 76 2 (.slice (some ⟨g, 0, none⟩) (u.length + 1) c') (u.length + 1) (tcs u ++ [.int .i64 y.1, .int .i64 y.2]))
    (hg : (wr.alloc (.cells cs t)).grownBy w' (Value.slice A u.length c).ownBlock) (hd : (Value.slice A u.length c).ownBlock = some g ∨ (wr.alloc (.cells cs t)).heap.size ≤ g) : SprSt w b x (u ++ [y]) (some ⟨g, 0, none⟩) c' w' := by
  have hlt : b < wr.heap.size := (Array.getElem?_eq_some_iff.1 h.box).1
  have e1 : (wr.alloc (.cells cs t)).heap.size = wr.heap.size + 1 := by simp
  refine ⟨?_, ?_, ?_, ?_⟩
  · rw [List.length_append, tcs_snoc]
    exact hown
  · show some g ≠ some b
    intro e
    injection e with e
    subst e
    rcases hd with hd | hd
    · exact h.ne hd
    · omega
  · exact (hg.block b (by omega) (fun e => h.ne e.symm)).trans ((Below.heap_alloc _ _ _ hlt).trans h.box)
  · exact (h.bel.alloc h.bel.size _).grown hg (by have := h.bel.size; omega) (fun q e => (World.ownsRow.lt h.own q e).1)
/-- What spread hands back. -/
def SpreadOut (w : World) (u : List (Int × Int)) (e : Ending) (w' : World) : Prop :=
  (u.length ≤ 16 ∧ ∃ A c, e = .returned (.tuple #[.slice A u.length c, .int .i64 0]) ∧ w'.ownsRow w.heap.size 76 2 (.slice A u.length c) u.length (tcs u) ∧ Below w.heap.size w w') ∨ (16 < u.length ∧ e = .returned (.tuple #[.slice none 0 0, .int .i64 4]) ∧ Below w.heap.size w w')
set_option maxRecDepth 20000 in
set_option maxHeartbeats 4000000 in
theorem spread_any (A : Option Addr) (c : Nat) (ps : List (Int × Int)) (A' : Option Addr) (c' : Nat) (l : List Int) (w : World) (hL : RowAt (rPair rInt rInt) w w.heap.size A ps) (hO : Ints w w.heap.size A' l) (hps : ps.length ≤ 10000) (hl : l.length ≤ 100) :
    Calls Try.prog 30 #[.slice A ps.length c, .slice A' l.length c'] w (SpreadOut w (sprP ps l ps.length)) := by
  obtain ⟨n, hn⟩ : ∃ n, ps.length = n := ⟨_, rfl⟩
  obtain ⟨m, hm⟩ : ∃ n, l.length = n := ⟨_, rfl⟩
  have HN := Lib.hid (And.intro hn hm)
  have HLEN : Hid (∀ k p a b x, k ≤ n → a ≤ m → b ≤ m → (sprP ps l k ++ (sprA p l a ++ sprB p a x l b)).length ≤ 200000000) := Lib.hid fun k p a b x hk ha hb => by
    have h1 := sprP_len ps l hl k
    have h2 := sprA_len p l hl a
    have h3 := sprB_len p a x l b
    rw [List.length_append, List.length_append]
    omega
  have HEND : Hid (∀ k, k ≤ n → (sprP ps l k).length ≤ 200000000) := Lib.hid fun k hk => by
    have h1 := sprP_len ps l hl k
    omega
  rw [hn, hm]
  rw [hn] at hps
  rw [hm] at hl
  have HI := Lib.hid (And.intro hL hO)
  clear hn hm hL hO
  go_enter Try.func30, Try.ntmps30
  go_wp2
  go_loopw [6, 8, 9, 10, 11, 12, 15] (fun v _ _ _ _ _ i wr => ∃ (k : Nat) (u : List (Int × Int)) (A2 : Option Addr) (c2 : Nat), k ≤ n ∧ i = .int .i64 k ∧ Hid (u = sprP ps l k) ∧ v = .slice A2 u.length c2 ∧ wr.ownsRow w.heap.size 76 2 (.slice A2 u.length c2) u.length (tcs u) ∧ Below w.heap.size w wr) (fun _ _ _ _ _ _ i _ => n - (intOf i).toNat)
  case atStart => exact ⟨0, [], none, 0, by omega, rfl, Lib.hid rfl, rfl, World.ownsRow_nil _ _ _ _, Below.refl _ _⟩
  case round =>
    obtain ⟨k, u, A2, c2, hk, rfl, hu, rfl, hown, hb⟩ := hrel
    have hz := hb.size
    by_cases hlt : k < n
    · obtain ⟨p, hp⟩ : ∃ p, ps[k]? = some p := ⟨_, List.getElem?_eq_getElem (by rw [HN.out.1]; exact hlt)⟩
      obtain ⟨ad, rfl, hadb, ⟨m0, m1⟩, _⟩ := row_Two (HI.out.1.below hb) hp
      have hk0 : (0 : Int) ≤ (k : Int) := by omega
      have hkn : (k : Int) < (n : Int) := by omega
      have HT : Hid (sprP ps l (k + 1) = sprP ps l k ++ sprA p l m) := Lib.hid (by rw [sprP_succ hp, HN.out.2])
      have hst : SprSt w wr.heap.size p u A2 c2 (wr.alloc (.cells #[.int .i64 p.1, .int .i64 p.2] 76)) := ⟨hown.alloc _, fun e => by have := (World.ownsRow.lt hown _ e).2; omega, World.alloc_heap_new wr _, hb.alloc hz _⟩
      have HS := Lib.hid hst
      clear hst hown hp
      go_upto_region 5 with fail
      obtain ⟨W1, hW1⟩ : ∃ W1, wr.alloc (.cells #[.int .i64 p.1, .int .i64 p.2] 76) = W1 := ⟨_, rfl⟩
      obtain ⟨bx, hbx⟩ : ∃ bx, wr.heap.size = bx := ⟨_, rfl⟩
      rw [hW1, hbx] at HS
      rw [hW1, hbx]
      rw [hbx] at hz
      clear hW1 m0 m1 hb hbx
      go_wp2_with fail
      go_loopw [6, 9, 10, 11, 12, 21] (fun v _ _ _ _ i wr => ∃ (a : Nat) (u2 : List (Int × Int)) (A3 : Option Addr) (c3 : Nat), a ≤ m ∧ i = .int .i64 a ∧ Hid (u2 = u ++ sprA p l a) ∧ v = .slice A3 u2.length c3 ∧ Hid (SprSt w bx p u2 A3 c3 wr)) (fun _ _ _ _ _ i _ => m - (intOf i).toNat)
      case atStart => exact ⟨0, u, A2, c2, by omega, rfl, Lib.hid (by rw [sprA, List.append_nil]), rfl, HS⟩
      case round =>
        obtain ⟨a, u2, A3, c3, ha, rfl, hu2, rfl, HS2⟩ := hrel
        by_cases hla : a < m
        · obtain ⟨ad1, x, rfl, hadb1, hx, hcx⟩ := (HI.out.2.below HS2.out.bel).at_ (k := a) (by rw [HN.out.2]; exact hla)
          have ha0 : (0 : Int) ≤ (a : Int) := by omega
          have ham : (a : Int) < (m : Int) := by omega
          have HT2 : Hid (sprA p l (a + 1) = sprA p l a ++ sprB p a x l m) := Lib.hid (by rw [sprA_succ hx, HN.out.2])
          clear hx
          go_upto_region 8 with fail
          clear hcx
          go_wp2_with fail
          go_loopw [6, 11, 12, 28] (fun v _ _ i wr => ∃ (b : Nat) (u3 : List (Int × Int)) (A4 : Option Addr) (c4 : Nat), b ≤ m ∧ i = .int .i64 b ∧ Hid (u3 = u2 ++ sprB p a x l b) ∧ v = .slice A4 u3.length c4 ∧ Hid (SprSt w bx p u3 A4 c4 wr)) (fun _ _ _ i _ => m - (intOf i).toNat)
          case atStart => exact ⟨0, u2, A3, c3, by omega, rfl, Lib.hid (by rw [sprB, List.append_nil]), rfl, HS2⟩
          case round =>
            obtain ⟨b, u3, A4, c4, hb, rfl, hu3, rfl, HS3⟩ := hrel
            by_cases hlb : b < m
            · obtain ⟨ad2, y, hA2, hadb2, hy, hcy⟩ := (HI.out.2.below HS3.out.bel).at_ (k := b) (by rw [HN.out.2]; exact hlb)
              obtain rfl := Option.some.inj hA2
              have hb0 : (0 : Int) ≤ (b : Int) := by omega
              have hbm : (b : Int) < (m : Int) := by omega
              have HT3 : Hid (sprB p a x l (b + 1) = sprB p a x l b ++ sprAt p a x b y) := Lib.hid (sprB_succ hy)
              obtain ⟨k0, k1⟩ := HS3.out.cells
              have hlen : u3.length ≤ 200000000 := by
                rw [hu3.out, hu2.out, hu.out, List.append_assoc]
                exact HLEN.out k p a b x (by omega) (by omega) (by omega)
              have hz3 := HS3.out.bel.size
              clear hy hA2
              by_cases h1 : x = p.1 ∧ y = p.2
              · have HE : Hid (sprB p a x l (b + 1) = sprB p a x l b ++ [((a : Int), (b : Int))]) := Lib.hid (by rw [HT3.out]; unfold sprAt; rw [if_pos h1])
                obtain ⟨h1, h2⟩ := h1
                rw [← h1] at k0
                rw [← h2] at k1
                clear h1 h2
                go_wp2_with (at_builtin; go_loud (refine wpList_app two_elem _ _ rfl w.heap.size A4 u3.length c4 (tcs u3) rfl (HS3.out.own.alloc _) ⟨wr.heap.size, 0, none⟩ 1 [.int .i64 a, .int .i64 b] rfl rfl (two_new _ _ _ _) (by simp [Value.oneCell']) (by omega) (by simp; omega) rfl ?_); intro g5 c5 w5 hown5 hg5 hx5; have HK5 := Lib.hid (HS3.out.push (y := ((a : Int), (b : Int))) hown5 hg5 hx5); clear hown5 hg5 hx5)
                refine ⟨⟨b + 1, u3 ++ [((a : Int), (b : Int))], some ⟨g5, 0, none⟩, c5, by omega, by go_num, Lib.hid (by rw [HE.out, hu3.out, List.append_assoc]), by rw [List.length_append]; rfl, HK5⟩, by simp [intOf]; omega⟩
              · have HE : Hid (sprB p a x l (b + 1) = sprB p a x l b) := Lib.hid (by rw [HT3.out]; unfold sprAt; rw [if_neg h1, List.append_nil])
                have hfin : ∃ b' u' A' c', b' ≤ m ∧ Value.int .i64 ((b : Int) + 1) = .int .i64 b' ∧ Hid (u' = u2 ++ sprB p a x l b') ∧ Value.slice A4 u3.length c4 = .slice A' (List.length u') c' ∧ Hid (SprSt w bx p u' A' c' wr) := ⟨b + 1, u3, A4, c4, by omega, by go_num, Lib.hid (by rw [HE.out, hu3.out]), rfl, HS3⟩
                have HF := Lib.hid hfin
                clear hfin HE HT3
                by_cases h2 : x = p.1
                · have h3 : ¬ y = p.2 := fun h => h1 ⟨h2, h⟩
                  rw [← h2] at k0
                  clear h1 h2
                  go_wp2
                  exact ⟨HF.out, by simp [intOf]; omega⟩
                · clear h1
                  go_wp2
                  exact ⟨HF.out, by simp [intOf]; omega⟩
            · have hbm : b = m := by omega
              subst hbm
              clear hlb
              go_wp2
              refine ⟨⟨a + 1, u3, A4, c4, by omega, by go_num, Lib.hid (by rw [HT2.out, hu3.out, hu2.out, List.append_assoc]), rfl, HS3⟩, by simp [intOf]; omega⟩
        · have ham : a = m := by omega
          subst ham
          clear hla
          go_wp2
          refine ⟨⟨k + 1, u2, A3, c3, by omega, by go_num, Lib.hid (by rw [HT.out, hu2.out, hu.out]), rfl, HS2.out.own, HS2.out.bel⟩, by simp [intOf]; omega⟩
    · have hkn : k = n := by omega
      subst hkn
      clear hlt
      have hul := HEND.out k (by omega)
      rw [← hu.out] at hul
      by_cases h16 : 16 < u.length
      · have h16' : (16 : Int) < (u.length : Int) := by omega
        go_wp2
        go_ret2
        rw [show sprP ps l k = u from hu.out.symm]
        exact .inr ⟨h16, rfl, hb⟩
      · have h16' : ¬ (16 : Int) < (u.length : Int) := by omega
        go_wp2
        go_ret2
        rw [show sprP ps l k = u from hu.out.symm]
        exact .inl ⟨by omega, A2, c2, rfl, hown, hb⟩
end Go.Proofs.Ytceceomaheobhaa.spl
