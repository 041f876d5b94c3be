/- The expanded instance of an instance that is accepted has no violations either; an instance without orders to be divided is its own expansion. -/
import Derived.Test.YtceceomaheobhaaGreatDoorSpwQ
import Derived.Test.YtceceomaheobhaaGreatDoorZ4
namespace Go.Proofs.YtceceomaheobhaaGreatDoor.spl
open Go.RowKit
open Go.Proofs.YtceceomaheobhaaGreatDoor.lib Go.Proofs.YtceceomaheobhaaGreatDoor.loads Go.Proofs.YtceceomaheobhaaGreatDoor.typ Go.Proofs.YtceceomaheobhaaGreatDoor.ins Go.Proofs.YtceceomaheobhaaGreatDoor.note Go.Proofs.YtceceomaheobhaaGreatDoor.txt Go.Proofs.YtceceomaheobhaaGreatDoor.ren Go.Proofs.YtceceomaheobhaaGreatDoor.rul Go.Proofs.YtceceomaheobhaaGreatDoor.par Go.Proofs.YtceceomaheobhaaGreatDoor.eqg
set_option linter.unusedVariables false
set_option linter.unusedSimpArgs false

/-! Pairs. -/
def lexP (z w : Int × Int) : Prop := z.1 < w.1 ∨ (z.1 = w.1 ∧ z.2 < w.2)
theorem sprB_mem {p : Int × Int} {a : Nat} {x : Int} {l : List Int} {z : Int × Int} : ∀ {n : Nat}, z ∈ sprB p a x l n → ∃ b : Nat, b < n ∧ l[b]? = some p.2 ∧ x = p.1 ∧ z = ((a : Int), (b : Int))
  | 0, h => by cases h
  | n + 1, h => by
    rw [sprB] at h
    rcases List.mem_append.1 h with h | h
    · obtain ⟨b, h1, h2⟩ := sprB_mem h
      exact ⟨b, by omega, h2⟩
    · split at h
      · rename_i y hy
        unfold sprAt at h
        split at h
        · rename_i hc
          exact ⟨n, by omega, by rw [hy, hc.2], hc.1, by simpa using h⟩
        · cases h
      · cases h
theorem sprA_mem {p : Int × Int} {l : List Int} {z : Int × Int} : ∀ {n : Nat}, z ∈ sprA p l n → ∃ a b : Nat, a < n ∧ l[a]? = some p.1 ∧ l[b]? = some p.2 ∧ z = ((a : Int), (b : Int))
  | 0, h => by cases h
  | n + 1, h => by
    rw [sprA] at h
    rcases List.mem_append.1 h with h | h
    · obtain ⟨a, b, h1, h2⟩ := sprA_mem h
      exact ⟨a, b, by omega, h2⟩
    · split at h
      · rename_i x hx
        obtain ⟨b, h1, h2, h3, h4⟩ := sprB_mem h
        exact ⟨n, b, by omega, by rw [hx, h3], h2, h4⟩
      · cases h
theorem sprP_mem {ps : List (Int × Int)} {l : List Int} {z : Int × Int} : ∀ {n : Nat}, z ∈ sprP ps l n → ∃ (i : Nat) (p : Int × Int) (a b : Nat), i < n ∧ ps[i]? = some p ∧ l[a]? = some p.1 ∧ l[b]? = some p.2 ∧ z = ((a : Int), (b : Int))
  | 0, h => by cases h
  | n + 1, h => by
    rw [sprP] at h
    rcases List.mem_append.1 h with h | h
    · obtain ⟨i, p, a, b, h1, h2⟩ := sprP_mem h
      exact ⟨i, p, a, b, by omega, h2⟩
    · split at h
      · rename_i p hp
        obtain ⟨a, b, _, h2⟩ := sprA_mem h
        exact ⟨n, p, a, b, by omega, hp, h2⟩
      · cases h
theorem sprB_lex {p : Int × Int} {a : Nat} {x : Int} {l : List Int} : ∀ n : Nat, (sprB p a x l n).Pairwise lexP
  | 0 => List.Pairwise.nil
  | n + 1 => by
    rw [sprB, List.pairwise_append]
    refine ⟨sprB_lex n, ?_, fun z hz w hw => ?_⟩
    · split
      · unfold sprAt
        split
        · exact List.pairwise_singleton _ _
        · exact List.Pairwise.nil
      · exact List.Pairwise.nil
    · obtain ⟨b, h1, _, _, rfl⟩ := sprB_mem hz
      split at hw
      · unfold sprAt at hw
        split at hw
        · rw [List.mem_singleton] at hw
          subst hw
          exact Or.inr ⟨rfl, by show (b : Int) < (n : Int); omega⟩
        · cases hw
      · cases hw
theorem sprA_lex {p : Int × Int} {l : List Int} : ∀ n : Nat, (sprA p l n).Pairwise lexP
  | 0 => List.Pairwise.nil
  | n + 1 => by
    rw [sprA, List.pairwise_append]
    refine ⟨sprA_lex n, ?_, fun z hz w hw => ?_⟩
    · split
      · exact sprB_lex _
      · exact List.Pairwise.nil
    · obtain ⟨a, b, h1, _, _, rfl⟩ := sprA_mem hz
      split at hw
      · obtain ⟨d, _, _, _, rfl⟩ := sprB_mem hw
        exact Or.inl (by show (a : Int) < (n : Int); omega)
      · cases hw
/-- A test that the indices of the parts keep. -/
structure PRel (same : Int × Int → Int × Int → Bool) (l : List Int) : Prop where
  map : ∀ (p q : Int × Int) (a b c d : Nat), l[a]? = some p.1 → l[b]? = some p.2 → l[c]? = some q.1 → l[d]? = some q.2 → same p q = false → same ((a : Int), (b : Int)) ((c : Int), (d : Int)) = false
  self : ∀ (p : Int × Int) (a b c d : Nat), l[a]? = some p.1 → l[b]? = some p.2 → l[c]? = some p.1 → l[d]? = some p.2 → p.1 ≠ p.2 → lexP ((a : Int), (b : Int)) ((c : Int), (d : Int)) → same ((c : Int), (d : Int)) ((a : Int), (b : Int)) = false
theorem twoEq_false {p q : Int × Int} : twoEq p q = false ↔ ¬ (p.1 = q.1 ∧ p.2 = q.2) := by
  unfold twoEq
  rw [Bool.eq_false_iff]
  simp
theorem looseB_false {p q : Int × Int} : looseB p q = false ↔ ¬ (p.1 = q.1 ∧ p.2 = q.2) ∧ ¬ (p.1 = q.2 ∧ p.2 = q.1) := by
  unfold looseB
  rw [Bool.or_eq_false_iff, twoEq_false, Bool.eq_false_iff]
  simp
theorem same_at {l : List Int} {a c : Nat} {u v : Int} (h : l[a]? = some u) (h' : l[c]? = some v) (e : (a : Int) = (c : Int)) : u = v := by
  obtain rfl : a = c := by omega
  rw [h] at h'
  exact Option.some.inj h'
theorem prel_two (l : List Int) : PRel twoEq l := by
  refine ⟨fun p q a b c d h1 h2 h3 h4 h => ?_, fun p a b c d h1 h2 h3 h4 hne hlex => ?_⟩
  · rw [twoEq_false] at h ⊢
    exact fun e => h ⟨same_at h1 h3 e.1, same_at h2 h4 e.2⟩
  · rw [twoEq_false]
    rintro ⟨e1, e2⟩
    have e1' : (c : Int) = (a : Int) := e1
    have e2' : (d : Int) = (b : Int) := e2
    rcases hlex with h | h
    · have h' : (a : Int) < (c : Int) := h; omega
    · have h' : (b : Int) < (d : Int) := h.2; omega
theorem prel_loose (l : List Int) : PRel looseB l := by
  refine ⟨fun p q a b c d h1 h2 h3 h4 h => ?_, fun p a b c d h1 h2 h3 h4 hne hlex => ?_⟩
  · rw [looseB_false] at h ⊢
    exact ⟨fun e => h.1 ⟨same_at h1 h3 e.1, same_at h2 h4 e.2⟩, fun e => h.2 ⟨same_at h1 h4 e.1, same_at h2 h3 e.2⟩⟩
  · have h0 := (prel_two l).self p a b c d h1 h2 h3 h4 hne hlex
    rw [twoEq_false] at h0
    rw [looseB_false]
    exact ⟨h0, fun e => hne (same_at h3 h2 e.1)⟩
theorem spr_twice {same : Int × Int → Int × Int → Bool} {ps : List (Int × Int)} {l : List Int} (hR : PRel same l) (hne : ∀ p ∈ ps, p.1 ≠ p.2) (ht : NoTwice same ps) : ∀ n : Nat, NoTwice same (sprP ps l n)
  | 0 => List.Pairwise.nil
  | n + 1 => by
    unfold NoTwice
    rw [sprP, List.pairwise_append]
    refine ⟨spr_twice hR hne ht n, ?_, fun z hz w hw => ?_⟩
    · split
      · rename_i p hp
        refine (sprA_lex l.length).imp_of_mem fun {z w} hz hw hlex => ?_
        obtain ⟨a, b, _, h1, h2, rfl⟩ := sprA_mem hz
        obtain ⟨c, d, _, h3, h4, rfl⟩ := sprA_mem hw
        exact hR.self p a b c d h1 h2 h3 h4 (hne p (List.mem_of_getElem? hp)) hlex
      · exact List.Pairwise.nil
    · obtain ⟨i, q, a, b, hi, hq, h1, h2, rfl⟩ := sprP_mem hz
      split at hw
      · rename_i p hp
        obtain ⟨c, d, _, h3, h4, rfl⟩ := sprA_mem hw
        refine hR.map p q c d a b h3 h4 h1 h2 ?_
        obtain ⟨hn, rfl⟩ := List.getElem?_eq_some_iff.1 hp
        obtain ⟨hi', rfl⟩ := List.getElem?_eq_some_iff.1 hq
        exact (List.pairwise_iff_getElem.1 ht) i n hi' hn hi
      · cases hw
theorem spr_pairs {n N : Nat} {word : ByteArray} {same : Int × Int → Int × Int → Bool} {ps : List (Int × Int)} {l : List Int} (hR : PRel same l) (hl : l.length = N) (h : pairsTo n word same ps ps.length = []) (h16 : (sprP ps l ps.length).length ≤ 16) : pairsTo N word same (sprP ps l ps.length) (sprP ps l ps.length).length = [] := by
  rw [pairs_nil] at h ⊢
  obtain ⟨h1, h2, h3⟩ := h
  refine ⟨h16, fun z hz => ?_, spr_twice hR (fun p hp => (bad_no (h2 p hp)).2.2) h3 _⟩
  obtain ⟨i, p, a, b, _, hp, ha, hb, rfl⟩ := sprP_mem hz
  have hne := (bad_no (h2 p (List.mem_of_getElem? hp))).2.2
  have la := (List.getElem?_eq_some_iff.1 ha).1
  have lb := (List.getElem?_eq_some_iff.1 hb).1
  refine bad_of ⟨?_, ?_⟩ ⟨?_, ?_⟩ (fun e => hne (same_at ha hb e))
  · show (0 : Int) ≤ (a : Int); omega
  · show (a : Int) < (N : Int); omega
  · show (0 : Int) ≤ (b : Int); omega
  · show (b : Int) < (N : Int); omega
end Go.Proofs.YtceceomaheobhaaGreatDoor.spl
