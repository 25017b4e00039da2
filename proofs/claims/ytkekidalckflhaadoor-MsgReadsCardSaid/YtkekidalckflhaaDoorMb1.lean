/- Law17: a message's text is read back as the message: plain laws. -/
import Derived.Test.YtkekidalckflhaaDoorMr1
import Derived.Lib.CutLaws
import Derived.KernelRfl
namespace Go.Proofs.YtkekidalckflhaaDoor
open Go.Vc Go.RowKit Go.Sei

def dig3 (n : Nat) : List UInt8 := if n < 10 then [UInt8.ofNat (48 + n)] else if n < 100 then [UInt8.ofNat (48 + n / 10), UInt8.ofNat (48 + n % 10)] else [UInt8.ofNat (48 + n / 100), UInt8.ofNat (48 + n / 10 % 10), UInt8.ofNat (48 + n % 10)]
theorem dig_eq (n : UInt8) : dig n = dig3 n.toNat := by
  have hn := n.toNat_lt
  unfold dig Lib.itoa
  rw [if_neg (by omega), Int.toNat_natCast]
  unfold dig3
  split
  · rw [Lib.decDigits, dif_pos ‹_›]
  · split
    · rw [Lib.decDigits, dif_neg ‹_›, Lib.decDigits, dif_pos (by omega)]; rfl
    · rw [Lib.decDigits, dif_neg (by omega), Lib.decDigits, dif_neg (by omega), Lib.decDigits, dif_pos (by omega), Nat.div_div_eq_div_mul]; rfl
theorem dig_all (P : Nat → List UInt8 → Bool) (h : ((List.range 256).all fun k => P k (dig3 k)) = true) (n : UInt8) : P n.toNat (dig n) = true := by
  rw [dig_eq]
  exact List.all_eq_true.1 h n.toNat (List.mem_range.2 n.toNat_lt)
def okIs (u : Nat) : Lib.NumEnd Nat → Bool
  | .ok v => Nat.beq v u
  | _ => false
theorem okIs_eq {u : Nat} {x : Lib.NumEnd Nat} (h : okIs u x = true) : x = .ok u := by
  unfold okIs at h
  split at h
  · rw [Nat.eq_of_beq_eq_true h]
  · cases h
theorem dig_parse (n : UInt8) : Lib.parseUintB 8 (dig n) = .ok n.toNat :=
  okIs_eq (dig_all (fun k l => okIs k (Lib.parseUintB 8 l)) (by kernel_rfl) n)
theorem dig_digits (n : UInt8) : ∀ c ∈ dig n, 48 ≤ c.toNat ∧ c.toNat ≤ 57 := by
  have h := dig_all (fun _ l => l.all fun c => Nat.ble 48 c.toNat && Nat.ble c.toNat 57) (by kernel_rfl) n
  intro c hc
  have := List.all_eq_true.1 h c hc
  simp only [Bool.and_eq_true] at this
  exact ⟨Nat.le_of_ble_eq_true this.1, Nat.le_of_ble_eq_true this.2⟩
theorem dig_not (n : UInt8) {c : UInt8} (h : c.toNat < 48 ∨ 57 < c.toNat) : c ∉ dig n := fun hc => by
  have := dig_digits n c hc; omega

theorem index_mid (c : UInt8) (r : List UInt8) : ∀ (a : List UInt8), c ∉ a → Lib.index (a ++ c :: r) [c] = a.length
  | [], _ => by
    show Lib.index (c :: r) [c] = 0
    unfold Lib.index
    rw [if_pos (by simp)]
  | b :: a, h => by
    have hb : c ≠ b := fun e => h (by rw [e]; simp)
    have ih := index_mid c r a (fun hm => h (List.mem_cons_of_mem _ hm))
    show Lib.index (b :: (a ++ c :: r)) [c] = _
    unfold Lib.index
    rw [if_neg (by simp [List.isPrefixOf, hb]), ih, if_neg (by rw [beq_iff_eq]; omega)]
    simp
theorem index_no (c : UInt8) : ∀ (a : List UInt8), c ∉ a → Lib.index a [c] = -1
  | [], _ => rfl
  | b :: a, h => by
    have hb : c ≠ b := fun e => h (by rw [e]; simp)
    have ih := index_no c a (fun hm => h (List.mem_cons_of_mem _ hm))
    unfold Lib.index
    rw [if_neg (by simp [List.isPrefixOf, hb]), ih, if_pos (by decide)]

theorem join_cons2 (x y : List UInt8) (r : List (List UInt8)) (c : UInt8) : Lib.join (x :: y :: r) [c] = x ++ c :: Lib.join (y :: r) [c] := by
  rw [Lib.join_cons, Lib.join_cons]
  simp [Lib.joinTail]
theorem split_join (c : UInt8) : ∀ (xs : List (List UInt8)) (k : Nat), xs ≠ [] → (∀ x ∈ xs, c ∉ x) → xs.length ≤ k + 1 → Lib.splitK [c] 0 k (Lib.join xs [c]) = xs
  | [], _, h, _, _ => absurd rfl h
  | [x], k, _, hx, _ => by
    rw [Lib.join_one]
    cases k with
    | zero => rfl
    | succ k => unfold Lib.splitK; rw [index_no c x (hx x (by simp)), if_pos (by decide)]
  | x :: y :: r, 0, _, _, hl => by simp at hl
  | x :: y :: r, k + 1, _, hx, hl => by
    have ih := split_join c (y :: r) k (by simp) (fun z hz => hx z (List.mem_cons_of_mem _ hz)) (by simpa using hl)
    rw [join_cons2]
    unfold Lib.splitK
    rw [index_mid c _ x (hx x (by simp)), if_neg (by rw [beq_iff_eq]; omega), Int.toNat_natCast]
    have e1 : (x ++ c :: Lib.join (y :: r) [c]).take (x.length + 0) = x := by simp
    have e2 : (x ++ c :: Lib.join (y :: r) [c]).drop (x.length + [c].length) = Lib.join (y :: r) [c] := by
      rw [List.drop_append]; simp
    rw [e1, e2, ih]
theorem join_lenB (c : UInt8) : ∀ (xs : List (List UInt8)), xs.length ≤ (Lib.join xs [c]).length + 1
  | [] => by simp
  | [x] => by simp
  | x :: y :: r => by
    have := join_lenB c (y :: r)
    rw [join_cons2]
    simp only [List.length_cons, List.length_append] at *
    omega
theorem cut_mid (c : UInt8) (a r : List UInt8) (h : c ∉ a) : Lib.cut (a ++ c :: r) [c] = (a, r, true) := by
  unfold Lib.cut
  rw [index_mid c r a h, if_pos (by omega), Int.toNat_natCast]
  have e1 : (a ++ c :: r).take a.length = a := by simp
  have e2 : (a ++ c :: r).drop (a.length + [c].length) = r := by rw [List.drop_append]; simp
  rw [e1, e2]

theorem wordsL_eq (s : List UInt8) : wordsL s = Lib.splitK [32] 0 (min 16 (s.length + 1) - 1) s := by
  unfold wordsL
  rw [Lib.splitB_data]; rfl
theorem name_no (k : UInt8) : (32 : UInt8) ∉ kindNames.getD k.toNat [] := by
  have h : ((List.range 256).all fun k => (kindNames.getD k []).all fun c => !(c == 32)) = true := by kernel_rfl
  have := List.all_eq_true.1 h k.toNat (List.mem_range.2 k.toNat_lt)
  intro hc
  have := List.all_eq_true.1 this _ hc
  simp at this
theorem w5_no (m : Msg) : ∀ x ∈ w5 m, (32 : UInt8) ∉ x := by
  have hd : ∀ n : UInt8, (32 : UInt8) ∉ dig n := fun n => dig_not n (.inl (by decide))
  intro x hx
  unfold w5 w4 w3 w2 w1 w0 at hx
  simp only [List.mem_append] at hx
  rcases hx with ((((( h | h) | h) | h) | h) | h)
  · split at h
    · simp only [List.mem_cons, List.not_mem_nil, or_false] at h
      rcases h with rfl | rfl
      · decide
      · exact hd _
    · simp only [List.mem_cons, List.not_mem_nil, or_false] at h
      subst h; exact name_no _
  · simp only [List.mem_cons, List.not_mem_nil, or_false] at h
    rcases h with rfl | rfl | rfl
    · intro hc
      simp only [List.mem_append] at hc
      rcases hc with (hc | hc) | hc
      · exact hd _ hc
      · revert hc; decide
      · exact hd _ hc
    · decide
    · exact hd _
  · split at h
    · cases h
    · simp only [List.mem_cons, List.not_mem_nil, or_false] at h
      rcases h with rfl | rfl
      · decide
      · exact hd _
  · split at h
    · cases h
    · simp only [List.mem_cons, List.not_mem_nil, or_false] at h
      rcases h with rfl | rfl
      · decide
      · exact hd _
  · split at h
    · simp only [List.mem_cons, List.not_mem_nil, or_false] at h
      subst h; decide
    · cases h
  · split at h
    · cases h
    · simp only [List.mem_cons, List.not_mem_nil, or_false] at h
      rcases h with rfl | rfl | rfl | rfl | rfl
      · decide
      all_goals exact hd _
theorem words_text (m : Msg) : wordsL (textOf m) = w5 m := by
  rw [wordsL_eq]
  have hl := (w_len m).2.2.2.2.2
  have hj := join_lenB 32 (w5 m)
  have hj' : (w5 m).length ≤ (textOf m).length + 1 := hj
  refine split_join 32 (w5 m) _ ?_ (w5_no m) (by omega)
  unfold w5 w4 w3 w2 w1
  simp

/-! ### The scan of these words -/
theorem num_dig (n : UInt8) (st : Wst) : num (dig n) st = (n, st) := by
  unfold num; rw [dig_parse]
  show (UInt8.ofNat n.toNat, st) = _
  rw [UInt8.ofNat_toNat]
def hdNe (wd : List UInt8) : List (List UInt8) → Bool
  | [] => true
  | x :: _ => !decide (x = wd)
theorem skp_no {wd : List UInt8} {st : Wst} (h : hdNe wd st.1 = true) : skp wd st = (false, st) := by
  obtain ⟨l, b⟩ := st
  cases l with
  | nil => rfl
  | cons x r =>
    have h : (!decide (x = wd)) = true := h
    have h : ¬ x = wd := by simpa using h
    show (if x = wd then _ else _) = _
    rw [if_neg h]
theorem skp_yes (wd : List UInt8) (r : List (List UInt8)) (b : Bool) : skp wd (wd :: r, b) = (true, (r, b)) := by
  show (if wd = wd then _ else _) = _
  rw [if_pos rfl]
theorem rd_dig (f : UInt8 → Msg → Msg) (a : Msg) (n : UInt8) (r : List (List UInt8)) (b : Bool) : rd f (a, (dig n :: r, b)) = (f n a, (r, b)) := by
  show (f (num (dig n) (r, b)).1 a, (num (dig n) (r, b)).2) = _
  rw [num_dig]
theorem opt_no {wd : List UInt8} {f : Msg × Wst → Msg × Wst} {s : Msg × Wst} (h : hdNe wd s.2.1 = true) : opt wd f s = s := by
  unfold opt; rw [skp_no h]; rfl
theorem opt_yes (wd : List UInt8) (f : Msg × Wst → Msg × Wst) (a : Msg) (r : List (List UInt8)) (b : Bool) : opt wd f (a, (wd :: r, b)) = f (a, (r, b)) := by
  unfold opt
  show (if (skp wd (wd :: r, b)).1 = true then _ else _) = _
  rw [skp_yes, if_pos rfl]

theorem c0_w (m : Msg) (r : List (List UInt8)) : c0 (w0 m ++ r) = ({ zeroM with kind := m.kind }, (r, true)) := by
  unfold w0
  by_cases h : classOf m.kind = 0
  · rw [if_pos h]
    unfold c0
    show (if (skp [107, 105, 110, 100] ([107, 105, 110, 100] :: (dig m.kind :: r), true)).1 = true then _ else _) = _
    rw [skp_yes, if_pos rfl]
    exact rd_dig _ _ _ _ _
  · rw [if_neg h]
    have hk : ((List.range 256).all fun k => decide (classes.getD k 0 = 0) || (hdNe [107, 105, 110, 100] [kindNames.getD k []] && decide (kindL (kindNames.getD k []) = UInt8.ofNat k))) = true := by kernel_rfl
    have h2 := List.all_eq_true.1 hk m.kind.toNat (List.mem_range.2 m.kind.toNat_lt)
    have h3 : ¬ classes.getD m.kind.toNat 0 = 0 := h
    rw [decide_eq_false h3, Bool.false_or, Bool.and_eq_true, UInt8.ofNat_toNat] at h2
    have h4 : hdNe [107, 105, 110, 100] (kindNames.getD m.kind.toNat [] :: r) = true := h2.1
    have h5 := of_decide_eq_true h2.2
    unfold c0
    show (if (skp [107, 105, 110, 100] (kindNames.getD m.kind.toNat [] :: r, true)).1 = true then _ else ({ zeroM with kind := kindL (nxt (skp [107, 105, 110, 100] (kindNames.getD m.kind.toNat [] :: r, true)).2).1 }, (nxt (skp [107, 105, 110, 100] (kindNames.getD m.kind.toNat [] :: r, true)).2).2)) = _
    rw [skp_no h4, if_neg (by simp)]
    show ({ zeroM with kind := kindL (kindNames.getD m.kind.toNat []) }, (r, true)) = _
    rw [h5]
theorem c1_w (a : Msg) (x y : UInt8) (r : List (List UInt8)) (b : Bool) : c1 (a, ((dig x ++ [62] ++ dig y) :: r, b)) = ({ a with from_ := x, «to» := y }, (r, b)) := by
  have hc : Lib.cut (dig x ++ [62] ++ dig y) [62] = (dig x, dig y, true) := by
    have := cut_mid 62 (dig x) (dig y) (dig_not x (.inr (by decide)))
    rw [← this]; simp
  unfold c1
  show ({ a with from_ := (num (Lib.cut (dig x ++ [62] ++ dig y) [62]).1 (r, b)).1, «to» := (num (Lib.cut (dig x ++ [62] ++ dig y) [62]).2.1 (num (Lib.cut (dig x ++ [62] ++ dig y) [62]).1 (r, b)).2).1 }, (num (Lib.cut (dig x ++ [62] ++ dig y) [62]).2.1 (num (Lib.cut (dig x ++ [62] ++ dig y) [62]).1 (r, b)).2).2) = _
  rw [hc]
  simp only [num_dig]
theorem c2_w (a : Msg) (r : List (List UInt8)) : c2 (a, ([108, 105, 110, 101] :: r, true)) = (a, (r, true)) := by
  show (a, ((skp [108, 105, 110, 101] ([108, 105, 110, 101] :: r, true)).2.1, (skp [108, 105, 110, 101] ([108, 105, 110, 101] :: r, true)).1 && (skp [108, 105, 110, 101] ([108, 105, 110, 101] :: r, true)).2.2)) = _
  rw [skp_yes]; rfl

def e4 (m : Msg) : List (List UInt8) := if m.asker = 0 then [] else [[97, 115, 107, 101, 114], dig m.asker]
def e5 (m : Msg) : List (List UInt8) := if m.acks = 0 then [] else [[97, 99, 107, 115], dig m.acks]
def e6 (m : Msg) : List (List UInt8) := if m.alone then [[97, 108, 111, 110, 101]] else []
def e7 (m : Msg) : List (List UInt8) := if m.d0 = 0 ∧ m.d1 = 0 ∧ m.d2 = 0 ∧ m.d3 = 0 then [] else [[100, 97, 116, 97], dig m.d0, dig m.d1, dig m.d2, dig m.d3]
theorem w5_split (m : Msg) : w5 m = w0 m ++ ((dig m.from_ ++ [62] ++ dig m.to) :: [108, 105, 110, 101] :: dig m.line :: (e4 m ++ (e5 m ++ (e6 m ++ e7 m)))) := by
  unfold w5 w4 w3 w2 w1 e4 e5 e6 e7
  simp only [List.append_assoc, List.cons_append, List.nil_append]
theorem hd7 (m : Msg) : hdNe [97, 108, 111, 110, 101] (e7 m) = true ∧ hdNe [97, 99, 107, 115] (e7 m) = true ∧ hdNe [97, 115, 107, 101, 114] (e7 m) = true := by
  unfold e7; split
  · exact ⟨rfl, rfl, rfl⟩
  · exact ⟨rfl, rfl, rfl⟩
theorem hd6 (m : Msg) : hdNe [97, 99, 107, 115] (e6 m ++ e7 m) = true ∧ hdNe [97, 115, 107, 101, 114] (e6 m ++ e7 m) = true := by
  unfold e6; split
  · exact ⟨rfl, rfl⟩
  · exact (hd7 m).2
theorem hd5 (m : Msg) : hdNe [97, 115, 107, 101, 114] (e5 m ++ (e6 m ++ e7 m)) = true := by
  unfold e5; split
  · exact (hd6 m).2
  · rfl
theorem c4_w (m a : Msg) (ha : a.asker = 0) : c4 (a, (e4 m ++ (e5 m ++ (e6 m ++ e7 m)), true)) = ({ a with asker := m.asker }, (e5 m ++ (e6 m ++ e7 m), true)) := by
  unfold c4 e4
  by_cases h : m.asker = 0
  · rw [if_pos h, opt_no (hd5 m), h, ← ha]; rfl
  · rw [if_neg h]
    refine (opt_yes _ _ _ _ _).trans ?_
    exact rd_dig _ _ _ _ _
theorem c5_w (m a : Msg) (ha : a.acks = 0) : c5 (a, (e5 m ++ (e6 m ++ e7 m), true)) = ({ a with acks := m.acks }, (e6 m ++ e7 m, true)) := by
  unfold c5 e5
  by_cases h : m.acks = 0
  · rw [if_pos h, opt_no (hd6 m).1, h, ← ha]; rfl
  · rw [if_neg h]
    refine (opt_yes _ _ _ _ _).trans ?_
    exact rd_dig _ _ _ _ _
theorem c6_w (m a : Msg) : c6 (a, (e6 m ++ e7 m, true)) = ({ a with alone := m.alone }, (e7 m, true)) := by
  unfold c6 e6
  by_cases h : m.alone = true
  · rw [if_pos h]
    show ({ a with alone := (skp [97, 108, 111, 110, 101] ([97, 108, 111, 110, 101] :: e7 m, true)).1 }, (skp [97, 108, 111, 110, 101] ([97, 108, 111, 110, 101] :: e7 m, true)).2) = _
    rw [skp_yes, h]
  · rw [if_neg h]
    show ({ a with alone := (skp [97, 108, 111, 110, 101] (e7 m, true)).1 }, (skp [97, 108, 111, 110, 101] (e7 m, true)).2) = _
    rw [skp_no (hd7 m).1]
    have : m.alone = false := by simpa using h
    rw [this]
theorem c7_w (m a : Msg) (h0 : a.d0 = 0) (h1 : a.d1 = 0) (h2 : a.d2 = 0) (h3 : a.d3 = 0) : c7 (a, (e7 m, true)) = ({ a with d0 := m.d0, d1 := m.d1, d2 := m.d2, d3 := m.d3 }, ([], true)) := by
  unfold c7 e7
  by_cases h : m.d0 = 0 ∧ m.d1 = 0 ∧ m.d2 = 0 ∧ m.d3 = 0
  · rw [if_pos h, opt_no (by rfl), h.1, h.2.1, h.2.2.1, h.2.2.2]
    obtain ⟨_, _, _, _, _, _, _, _, _, _, _⟩ := a
    dsimp only at h0 h1 h2 h3
    subst h0 h1 h2 h3; rfl
  · rw [if_neg h]
    refine (opt_yes _ _ _ _ _).trans ?_
    unfold r0 r1 r2 r3
    rw [rd_dig, rd_dig, rd_dig, rd_dig]
theorem scan_text (m : Msg) : scanL (w5 m) = (m, true) := by
  unfold scanL scanS
  rw [w5_split, c0_w, c1_w, c2_w]
  unfold c3
  rw [rd_dig, c4_w _ _ rfl, c5_w _ _ rfl, c6_w, c7_w _ _ rfl rfl rfl rfl]
  rfl
theorem parse_text (m : Msg) : parseL (textOf m) = (m, 0) := by
  unfold parseL
  rw [words_text, scan_text]
  exact if_pos ⟨rfl, rfl⟩
theorem text_inj {a b : Msg} (h : textOf a = textOf b) : a = b := by
  have ha := parse_text a
  rw [h, parse_text b] at ha
  exact (congrArg Prod.fst ha).symm
theorem code_inj {a b : Msg} (h : codeOf a = codeOf b) : a = b := by
  have key : ∀ m : Msg, readL (codeOf m) = (m, true) := by
    rintro ⟨_, _, _, _, _, _, al, _, _, _, _⟩
    cases al <;> rfl
  have := key a
  rw [h, key b] at this
  exact (congrArg Prod.fst this).symm
end Go.Proofs.YtkekidalckflhaaDoor
