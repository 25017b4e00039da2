/- Law17: the reference's validity is the program's: plain law. -/
import Derived.Test.YtkekidalckflhaaGreatDoorZ2
import Derived.Test.YtkekidalckflhaaGreatDoorZ3
namespace Go.Proofs.YtkekidalckflhaaGreatDoor
open Go.Vc Go.RowKit Go.Sei

def cacheW (g : Geo) (m : Msg) : Bool := isCache g m.from_ && decide (m.to = homeOf g m.line)
def fromHomeW (g : Geo) (m : Msg) : Bool := decide (m.from_ = homeOf g m.line) && isCache g m.to
def betweenW (g : Geo) (m : Msg) : Bool := isCache g m.from_ && isCache g m.to && !decide (m.from_ = m.to)
def zeroD (m : Msg) : Bool := decide (m.d0 = 0) && decide (m.d1 = 0) && decide (m.d2 = 0) && decide (m.d3 = 0)
def tailD (m : Msg) (n : Nat) : Bool := (Nat.blt 0 n || decide (m.d0 = 0)) && (Nat.blt 1 n || decide (m.d1 = 0)) && (Nat.blt 2 n || decide (m.d2 = 0)) && (Nat.blt 3 n || decide (m.d3 = 0))
def wayK (k : Nat) (c f b : Bool) : Bool := if 1 ≤ k ∧ k ≤ 5 then c else if (6 ≤ k ∧ k ≤ 9) ∨ k = 11 then f else if k = 10 then f || b else if k = 12 then b else false
def askK (k : Nat) (F G H : Bool) : Bool := if 6 ≤ k ∧ k ≤ 8 then F && !G else H
def acksK (k : Nat) (I J : Bool) : Bool := J || (I && (decide (k = 7) || decide (k = 10) || decide (k = 11)))
def aloneK (k : Nat) (K f : Bool) : Bool := !K || (decide (k = 10) && f)
def dataK (k : Nat) (Z Y : Bool) : Bool := (Z || decide (k = 3) || decide (k = 5) || decide (k = 10)) && Y
def rightR (g : Geo) (m : Msg) : Bool := geoR g && decide ((m.line.toNat : Int) < linesOf g) &&
  (wayK m.kind.toNat (cacheW g m) (fromHomeW g m) (betweenW g m) && askK m.kind.toNat (isCache g m.asker) (decide (m.asker = m.to)) (decide (m.asker = 0)) && acksK m.kind.toNat (decide ((m.acks.toNat : Int) < g.c)) (decide (m.acks = 0)) && aloneK m.kind.toNat m.alone (fromHomeW g m) && dataK m.kind.toNat (zeroD m) (tailD m g.w.toNat))

theorem plain_eq (m : Msg) (g : Geo) (b : UInt8) : plainL m g b = ((hasB b 1 || decide (m.asker = 0)) && (hasB b 2 || decide (m.acks = 0)) && (hasB b 4 || !m.alone) && (if hasB b 8 then tailD m g.w.toNat else zeroD m)) := by
  obtain ⟨n, hn⟩ : ∃ n, n = g.w.toNat := ⟨_, rfl⟩
  have e : pl4 m g b = ⟨m.kind, m.from_, m.to, m.line, if hasB b 1 then m.asker else 0, if hasB b 2 then m.acks else 0, if hasB b 4 then m.alone else false,
      if hasB b 8 && Nat.blt 0 n then m.d0 else 0, if hasB b 8 && Nat.blt 1 n then m.d1 else 0, if hasB b 8 && Nat.blt 2 n then m.d2 else 0, if hasB b 8 && Nat.blt 3 n then m.d3 else 0⟩ := by
    have bl : ∀ i, (Nat.blt i n = true) = (i < n) := fun i => by rw [Nat.blt_eq]
    unfold pl4 dcut pl3 pl2 pl1 pl0
    rw [← hn]
    cases hasB b 1 <;> cases hasB b 2 <;> cases hasB b 4 <;> cases hasB b 8 <;> simp [zeroM]
  unfold plainL
  rw [e, ← hn]
  obtain ⟨k, f, t, l, as_, ac, al, d0, d1, d2, d3⟩ := m
  dsimp only
  simp only [Msg.mk.injEq, true_and, tailD, zeroD]
  have c1 : ∀ (b : Bool) (x : UInt8), decide ((if b = true then x else 0) = x) = (b || decide (x = 0)) := fun b x => by
    cases b
    · simp only [Bool.false_eq_true, if_false, Bool.false_or]; rw [decide_eq_decide]; exact eq_comm
    · simp
  have c2 : ∀ (b x : Bool), decide ((if b = true then x else false) = x) = (b || !x) := fun b x => by cases b <;> cases x <;> rfl
  simp only [Bool.decide_and, c1, c2]
  cases hasB b 8 <;> simp [Bool.and_assoc]

def allB (p : Bool → Bool) : Bool := p false && p true
theorem allB_spec {p : Bool → Bool} (h : allB p = true) (b : Bool) : p b = true := by
  unfold allB at h
  rw [Bool.and_eq_true] at h
  cases b
  · exact h.1
  · exact h.2
/-- The bits of a kind. -/
def bitsT : List (List Bool) := (List.range 13).map fun k => [1, 2, 4, 8, 16, 32, 64, 128].map fun x => hasB (usesL.getD k 0) x
def eqK (k : Nat) (h : List Bool) (A B C D E F G H I J K Y Z : Bool) : Bool :=
  match h with
  | [h1, h2, h4, h8, h16, h32, h64, h128] =>
    (((((h16 && C) || (h32 && A)) && ((h64 && D) || (h128 && B)) && !E) && ((!(h1 && (!F || G))) && (I && (!K || !A))) && ((h1 || H) && (h2 || J) && (h4 || !K) && (if h8 then Y else Z)))
      == (wayK k (A && D) (C && B) (A && B && !E) && askK k F G H && acksK k I J && aloneK k K (C && B) && dataK k Z Y))
  | _ => false
def chk (k : Nat) (h : List Bool) : Bool := allB fun A => allB fun C => (A && C) || allB fun B => allB fun D => (B && D) || allB fun E => (E && !(A == B)) || allB fun I => allB fun J => (J && !I) || allB fun Y => allB fun Z => (Z && !Y) || allB fun F => allB fun G => allB fun H => allB fun K => eqK k h A B C D E F G H I J K Y Z
theorem chk_all : ((List.range 13).all fun k => Nat.beq k 0 || chk k (bitsT.getD k [])) = true := by kernel_rfl

theorem right_same (g : Geo) (m : Msg) : rightR g m = rightL g m := by
  cases hR : geoR g with
  | false => unfold rightR rightL; rw [hR]; rfl
  | true =>
    unfold rightR rightL
    rw [hR, Bool.true_and, Bool.true_and]
    cases hl : decide ((m.line.toNat : Int) < linesOf g) with
    | false => rw [Bool.false_and, Bool.and_false, Bool.false_and]
    | true =>
      rw [Bool.true_and, Bool.and_true]
      have hk : m.kind.toNat < 256 := m.kind.toNat_lt
      by_cases hk13 : m.kind.toNat < 13
      · by_cases h0 : m.kind.toNat = 0
        · have hu : useOf m = 0 := by unfold useOf; rw [h0]; rfl
          rw [h0, hu]
          rfl
        · have hu : useOf m ≠ 0 := by
            have tab : ((List.range 13).all fun k => Nat.beq k 0 || !decide (usesL.getD k 0 = 0)) = true := by kernel_rfl
            have := List.all_eq_true.1 tab m.kind.toNat (List.mem_range.2 hk13)
            have hb : Nat.beq m.kind.toNat 0 = false := by
              cases hh : Nat.beq m.kind.toNat 0 with
              | false => rfl
              | true => exact absurd (Nat.eq_of_beq_eq_true hh) h0
            rw [hb, Bool.false_or] at this
            exact of_decide_eq_false (not_t this)
          rw [decide_eq_true hk13, decide_eq_false hu, Bool.not_false, Bool.true_and, Bool.true_and]
          have c := List.all_eq_true.1 chk_all m.kind.toNat (List.mem_range.2 hk13)
          have hb : Nat.beq m.kind.toNat 0 = false := by
            cases hh : Nat.beq m.kind.toNat 0 with
            | false => rfl
            | true => exact absurd (Nat.eq_of_beq_eq_true hh) h0
          rw [hb, Bool.false_or] at c
          have hbits : bitsT.getD m.kind.toNat [] = [hasB (useOf m) 1, hasB (useOf m) 2, hasB (useOf m) 4, hasB (useOf m) 8, hasB (useOf m) 16, hasB (useOf m) 32, hasB (useOf m) 64, hasB (useOf m) 128] := by
            unfold bitsT
            rw [List.getD_eq_getElem?_getD, List.getElem?_map, List.getElem?_range hk13]; rfl
          rw [hbits] at c
          obtain ⟨hh1, hh2, hh3⟩ := home_facts hR m.line
          have hs := geoR_spec hR
          have c := allB_spec (allB_spec c (isCache g m.from_)) (decide (m.from_ = homeOf g m.line))
          have x1 : (isCache g m.from_ && decide (m.from_ = homeOf g m.line)) = false := by
            by_cases e : m.from_ = homeOf g m.line
            · rw [e, hh2]; rfl
            · rw [decide_eq_false e, Bool.and_false]
          rw [x1, Bool.false_or] at c
          have c := allB_spec (allB_spec c (isCache g m.to)) (decide (m.to = homeOf g m.line))
          have x2 : (isCache g m.to && decide (m.to = homeOf g m.line)) = false := by
            by_cases e : m.to = homeOf g m.line
            · rw [e, hh2]; rfl
            · rw [decide_eq_false e, Bool.and_false]
          rw [x2, Bool.false_or] at c
          have c := allB_spec c (decide (m.from_ = m.to))
          have x3 : (decide (m.from_ = m.to) && !(isCache g m.from_ == isCache g m.to)) = false := by
            by_cases e : m.from_ = m.to
            · rw [e]; simp
            · rw [decide_eq_false e, Bool.false_and]
          rw [x3, Bool.false_or] at c
          have c := allB_spec (allB_spec c (decide ((m.acks.toNat : Int) < g.c))) (decide (m.acks = 0))
          have x4 : (decide (m.acks = 0) && !decide ((m.acks.toNat : Int) < g.c)) = false := by
            by_cases e : m.acks = 0
            · rw [e, decide_eq_true (p := (((0 : UInt8).toNat : Int) < g.c)) (by show (0 : Int) < g.c; omega)]; simp
            · rw [decide_eq_false e, Bool.false_and]
          rw [x4, Bool.false_or] at c
          have c := allB_spec (allB_spec c (tailD m g.w.toNat)) (zeroD m)
          have x5 : (zeroD m && !tailD m g.w.toNat) = false := by
            cases hz : zeroD m with
            | false => rfl
            | true =>
              unfold zeroD at hz
              simp only [Bool.and_eq_true, decide_eq_true_eq] at hz
              obtain ⟨⟨⟨a, b⟩, c⟩, d⟩ := hz
              unfold tailD
              rw [a, b, c, d]; simp
          rw [x5, Bool.false_or] at c
          have c := allB_spec (allB_spec (allB_spec (allB_spec c (isCache g m.asker)) (decide (m.asker = m.to))) (decide (m.asker = 0))) m.alone
          have c := eq_of_beq (show (_ == _) = true from c)
          unfold cacheW fromHomeW betweenW
          rw [← c]
          rw [plain_eq m g (useOf m)]
          rfl
      · have hw : wayK m.kind.toNat (cacheW g m) (fromHomeW g m) (betweenW g m) = false := by
          unfold wayK; rw [if_neg (by omega), if_neg (by omega), if_neg (by omega), if_neg (by omega)]
        rw [hw, decide_eq_false hk13]; rfl
end Go.Proofs.YtkekidalckflhaaGreatDoor
