/- Law17: what the reference reads and prints: plain laws. -/
import Derived.Test.YtkekidalckflhaaDoorMb1
namespace Go.Proofs.YtkekidalckflhaaDoor
open Go.Vc Go.RowKit Go.Sei

/-- A word's number, as the reference reads it. -/
def valN : List UInt8 → Nat → Nat
  | [], n => n
  | c :: r, n => valN r (10 * n + (c - 48).toNat)
def valR (w : List UInt8) : UInt8 := UInt8.ofNat (valN (w.take 3) 0)
theorem val_dig (n : UInt8) : valR (dig n) = n := by
  have h := dig_all (fun k l => Nat.beq (valN (l.take 3) 0) k) (by kernel_rfl) n
  have e := Nat.eq_of_beq_eq_true h
  unfold valR
  rw [e, UInt8.ofNat_toNat]

/-- The words between spaces and '>'. -/
def sp : List UInt8 → List UInt8 → List (List UInt8)
  | w, [] => [w]
  | w, c :: r => if c = 32 ∨ c = 62 then w :: sp [] r else sp (w ++ [c]) r
def clean (a : List UInt8) : Prop := ∀ c ∈ a, c ≠ 32 ∧ c ≠ 62
theorem sp_clean (r : List UInt8) : ∀ (a w : List UInt8), clean a → sp w (a ++ r) = sp (w ++ a) r
  | [], w, _ => by simp
  | c :: a, w, h => by
    have hc := h c (by simp)
    show (if c = 32 ∨ c = 62 then w :: sp [] (a ++ r) else sp (w ++ [c]) (a ++ r)) = _
    rw [if_neg (by rintro (e | e); exact hc.1 e; exact hc.2 e), sp_clean r a (w ++ [c]) (fun x hx => h x (List.mem_cons_of_mem _ hx))]
    simp
theorem sp_space (a r : List UInt8) (h : clean a) : sp [] (a ++ 32 :: r) = a :: sp [] r := by
  rw [sp_clean _ a [] h]
  show (if (32 : UInt8) = 32 ∨ _ then _ else _) = _
  rw [if_pos (.inl rfl)]; simp
theorem sp_arrow (a r : List UInt8) (h : clean a) : sp [] (a ++ 62 :: r) = a :: sp [] r := by
  rw [sp_clean _ a [] h]
  show (if (62 : UInt8) = 32 ∨ (62 : UInt8) = 62 then _ else _) = _
  rw [if_pos (.inr rfl)]; simp
theorem sp_last (a : List UInt8) (h : clean a) : sp [] a = [a] := by
  have := sp_clean [] a [] h
  rw [List.append_nil] at this
  rw [this]; simp [sp]
theorem sp_join : ∀ (xs : List (List UInt8)), xs ≠ [] → (∀ x ∈ xs, clean x) → sp [] (Lib.join xs [32]) = xs
  | [], h, _ => absurd rfl h
  | [x], _, h => by rw [Lib.join_one]; exact sp_last x (h x (by simp))
  | x :: y :: r, _, h => by
    rw [join_cons2, sp_space _ _ (h x (by simp)), sp_join (y :: r) (by simp) (fun z hz => h z (List.mem_cons_of_mem _ hz))]
theorem dig_clean (n : UInt8) : clean (dig n) := fun c hc => by
  have := dig_digits n c hc
  constructor <;> (rintro rfl; simp at this)
theorem name_clean (k : UInt8) : clean (kindNames.getD k.toNat []) := by
  have h : ((List.range 256).all fun k => (kindNames.getD k []).all fun c => !(c == 32) && !(c == 62)) = true := by kernel_rfl
  have := List.all_eq_true.1 h k.toNat (List.mem_range.2 k.toNat_lt)
  intro c hc
  have := List.all_eq_true.1 this _ hc
  simp at this
  exact this
/-- The words behind the kind. -/
def restW (m : Msg) : List (List UInt8) := [108, 105, 110, 101] :: dig m.line :: (e4 m ++ (e5 m ++ (e6 m ++ e7 m)))
theorem rest_clean (m : Msg) : ∀ x ∈ restW m, clean x := by
  have kw : ∀ l : List UInt8, (l.all fun c => !(c == 32) && !(c == 62)) = true → clean l := by
    intro l h c hc
    have := List.all_eq_true.1 h c hc
    simp at this; exact this
  intro x hx
  unfold restW e4 e5 e6 e7 at hx
  simp only [List.mem_cons, List.mem_append] at hx
  rcases hx with rfl | rfl | h | h | h | h
  · exact kw _ (by decide)
  · exact dig_clean _
  · split at h
    · cases h
    · simp only [List.mem_cons, List.not_mem_nil, or_false] at h
      rcases h with rfl | rfl
      · exact kw _ (by decide)
      · exact dig_clean _
  · split at h
    · cases h
    · simp only [List.mem_cons, List.not_mem_nil, or_false] at h
      rcases h with rfl | rfl
      · exact kw _ (by decide)
      · exact dig_clean _
  · split at h
    · simp only [List.mem_cons, List.not_mem_nil, or_false] at h
      subst h; exact kw _ (by decide)
    · cases h
  · split at h
    · cases h
    · simp only [List.mem_cons, List.not_mem_nil, or_false] at h
      rcases h with rfl | rfl | rfl | rfl | rfl
      · exact kw _ (by decide)
      all_goals exact dig_clean _
theorem sp_text (m : Msg) : sp [] (textOf m) = w0 m ++ (dig m.from_ :: dig m.to :: restW m) := by
  have hw : w5 m = w0 m ++ ((dig m.from_ ++ [62] ++ dig m.to) :: restW m) := w5_split m
  have hr : restW m = [108, 105, 110, 101] :: dig m.line :: (e4 m ++ (e5 m ++ (e6 m ++ e7 m))) := rfl
  have core : sp [] (Lib.join ((dig m.from_ ++ [62] ++ dig m.to) :: restW m) [32]) = dig m.from_ :: dig m.to :: restW m := by
    rw [hr, join_cons2, ← hr]
    have e : (dig m.from_ ++ [62] ++ dig m.to) ++ 32 :: Lib.join (restW m) [32] = dig m.from_ ++ 62 :: (dig m.to ++ 32 :: Lib.join (restW m) [32]) := by simp
    rw [e, sp_arrow _ _ (dig_clean _), sp_space _ _ (dig_clean _), sp_join _ (by rw [hr]; simp) (rest_clean m)]
  unfold textOf
  rw [hw]
  unfold w0
  split
  · have e1 : [[107, 105, 110, 100], dig m.kind] ++ ((dig m.from_ ++ [62] ++ dig m.to) :: restW m) = [107, 105, 110, 100] :: dig m.kind :: (dig m.from_ ++ [62] ++ dig m.to) :: restW m := rfl
    rw [e1, join_cons2, sp_space _ _ (by intro c hc; simp only [List.mem_cons, List.not_mem_nil, or_false] at hc; rcases hc with rfl | rfl | rfl | rfl <;> decide), join_cons2, sp_space _ _ (dig_clean _), core]; rfl
  · have e1 : [kindNames.getD m.kind.toNat []] ++ ((dig m.from_ ++ [62] ++ dig m.to) :: restW m) = kindNames.getD m.kind.toNat [] :: (dig m.from_ ++ [62] ++ dig m.to) :: restW m := rfl
    rw [e1, join_cons2, sp_space _ _ (name_clean _), core]; rfl

/-! ### The candidate -/
def nxR : List (List UInt8) → UInt8
  | [] => 0
  | x :: _ => valR x
def stepR (w : List UInt8) (r : List (List UInt8)) (m : Msg) : Msg :=
  if w = [108, 105, 110, 101] then { m with line := nxR r }
  else if w = [97, 115, 107, 101, 114] then { m with asker := nxR r }
  else if w = [97, 99, 107, 115] then { m with acks := nxR r }
  else if w = [97, 108, 111, 110, 101] then { m with alone := true }
  else if w = [100, 97, 116, 97] then (match r with
    | a :: b :: c :: d :: _ => { m with d0 := valR a, d1 := valR b, d2 := valR c, d3 := valR d }
    | _ => m)
  else m
def goR : List (List UInt8) → Msg → Msg
  | [], m => m
  | w :: r, m => goR r (stepR w r m)
/-- Behind the word for the kind. -/
def go1 : List (List UInt8) → Msg → Msg
  | [], m => m
  | w :: r, m => goR r { m with from_ := valR w, «to» := nxR r }
def namesR : List (List UInt8) := kindNames.tail
def kfold (w : List UInt8) : Nat → UInt8 → UInt8
  | 0, k => k
  | n + 1, k => if w = namesR.getD n [] then UInt8.ofNat (n + 1) else kfold w n k
def candR (l : List (List UInt8)) : Msg :=
  match l with
  | [] => zeroM
  | x :: r => if x = [107, 105, 110, 100] then (match r with
      | [] => { zeroM with kind := kfold x 12 0 }
      | y :: r => go1 r { zeroM with kind := kfold y 12 (valR y) })
    else go1 r { zeroM with kind := kfold x 12 0 }

theorem cand_kind (y : List UInt8) (r : List (List UInt8)) : candR ([107, 105, 110, 100] :: y :: r) = go1 r { zeroM with kind := kfold y 12 (valR y) } := by
  unfold candR; exact if_pos rfl
theorem cand_name {x : List UInt8} (r : List (List UInt8)) (h : x ≠ [107, 105, 110, 100]) : candR (x :: r) = go1 r { zeroM with kind := kfold x 12 0 } := by
  unfold candR; exact if_neg h
theorem step_dig (n : UInt8) (r : List (List UInt8)) (m : Msg) : stepR (dig n) r m = m := by
  have hne : ∀ w : List UInt8, (w.any fun c => Nat.blt 57 c.toNat) = true → dig n ≠ w := by
    intro w hw e
    obtain ⟨c, hc, h⟩ := List.any_eq_true.1 hw
    rw [← e] at hc
    have h1 := dig_digits n c hc
    have h2 : 57 < c.toNat := by simpa [Nat.blt_eq] using h
    omega
  unfold stepR
  rw [if_neg (hne _ (by decide)), if_neg (hne _ (by decide)), if_neg (hne _ (by decide)), if_neg (hne _ (by decide)), if_neg (hne _ (by decide))]
theorem go_dig (n : UInt8) (r : List (List UInt8)) (m : Msg) : goR (dig n :: r) m = goR r m := by
  show goR r (stepR (dig n) r m) = _
  rw [step_dig]
theorem kfold_dig (n k : UInt8) : kfold (dig n) 12 k = k := by
  have h := dig_all (fun _ l => (List.range 12).all fun j => !decide (l = namesR.getD j [])) (by kernel_rfl) n
  have hh : ∀ j, j < 12 → dig n ≠ namesR.getD j [] := fun j hj => by
    have := List.all_eq_true.1 h j (List.mem_range.2 hj)
    simpa using this
  have : ∀ j, j ≤ 12 → kfold (dig n) j k = k := by
    intro j
    induction j with
    | zero => exact fun _ => rfl
    | succ j ih => intro hj; show (if _ then _ else _) = _; rw [if_neg (hh j (by omega)), ih (by omega)]
  exact this 12 (Nat.le_refl _)
theorem go_rest (m a : Msg) (h0 : a.asker = 0) (h1 : a.acks = 0) (h2 : a.alone = false) (hd : a.d0 = 0 ∧ a.d1 = 0 ∧ a.d2 = 0 ∧ a.d3 = 0) :
    goR (restW m) a = { a with line := m.line, asker := m.asker, acks := m.acks, alone := m.alone, d0 := m.d0, d1 := m.d1, d2 := m.d2, d3 := m.d3 } := by
  obtain ⟨k, f, t, l, as_, ac, al, d0, d1, d2, d3⟩ := a
  dsimp only at h0 h1 h2 hd
  obtain ⟨rfl, rfl, rfl, rfl⟩ := hd
  subst h0 h1 h2
  unfold restW
  show goR (dig m.line :: _) (stepR [108, 105, 110, 101] (dig m.line :: _) _) = _
  rw [go_dig]
  have s1 : ∀ (r : List (List UInt8)) (x : Msg), stepR [108, 105, 110, 101] (dig m.line :: r) x = { x with line := m.line } := fun r x => by
    unfold stepR; rw [if_pos rfl]; show { x with line := valR (dig m.line) } = _; rw [val_dig]
  rw [s1]
  have s2 : ∀ (r : List (List UInt8)) (x : Msg), x.asker = 0 → goR (e4 m ++ r) x = goR r { x with asker := m.asker } := fun r x hx => by
    unfold e4
    by_cases h : m.asker = 0
    · rw [if_pos h, h, ← hx]; rfl
    · rw [if_neg h]
      show goR (dig m.asker :: r) (stepR [97, 115, 107, 101, 114] (dig m.asker :: r) x) = _
      rw [go_dig]; unfold stepR; rw [if_neg (by decide), if_pos rfl]; show goR r { x with asker := valR (dig m.asker) } = _; rw [val_dig]
  have s3 : ∀ (r : List (List UInt8)) (x : Msg), x.acks = 0 → goR (e5 m ++ r) x = goR r { x with acks := m.acks } := fun r x hx => by
    unfold e5
    by_cases h : m.acks = 0
    · rw [if_pos h, h, ← hx]; rfl
    · rw [if_neg h]
      show goR (dig m.acks :: r) (stepR [97, 99, 107, 115] (dig m.acks :: r) x) = _
      rw [go_dig]; unfold stepR; rw [if_neg (by decide), if_neg (by decide), if_pos rfl]; show goR r { x with acks := valR (dig m.acks) } = _; rw [val_dig]
  have s4 : ∀ (r : List (List UInt8)) (x : Msg), x.alone = false → goR (e6 m ++ r) x = goR r { x with alone := m.alone } := fun r x hx => by
    unfold e6
    by_cases h : m.alone = true
    · rw [if_pos h, h]
      show goR r (stepR [97, 108, 111, 110, 101] r x) = _
      unfold stepR; rw [if_neg (by decide), if_neg (by decide), if_neg (by decide), if_pos rfl]
    · rw [if_neg h]
      have : m.alone = false := by simpa using h
      rw [this, ← hx]; rfl
  have s5 : ∀ (x : Msg), (x.d0 = 0 ∧ x.d1 = 0 ∧ x.d2 = 0 ∧ x.d3 = 0) → goR (e7 m) x = { x with d0 := m.d0, d1 := m.d1, d2 := m.d2, d3 := m.d3 } := fun x hx => by
    unfold e7
    by_cases h : m.d0 = 0 ∧ m.d1 = 0 ∧ m.d2 = 0 ∧ m.d3 = 0
    · rw [if_pos h, h.1, h.2.1, h.2.2.1, h.2.2.2]
      obtain ⟨_, _, _, _, _, _, _, _, _, _, _⟩ := x
      obtain ⟨rfl, rfl, rfl, rfl⟩ := hx; rfl
    · rw [if_neg h]
      show goR [dig m.d0, dig m.d1, dig m.d2, dig m.d3] (stepR [100, 97, 116, 97] [dig m.d0, dig m.d1, dig m.d2, dig m.d3] x) = _
      rw [go_dig, go_dig, go_dig, go_dig]
      unfold stepR; rw [if_neg (by decide), if_neg (by decide), if_neg (by decide), if_neg (by decide), if_pos rfl]
      show { x with d0 := valR (dig m.d0), d1 := valR (dig m.d1), d2 := valR (dig m.d2), d3 := valR (dig m.d3) } = _
      rw [val_dig, val_dig, val_dig, val_dig]
  rw [s2 _ _ rfl, s3 _ _ rfl, s4 _ _ rfl, s5 _ ⟨rfl, rfl, rfl, rfl⟩]
theorem cand_text (m : Msg) : candR (sp [] (textOf m)) = m := by
  rw [sp_text]
  have tail : ∀ k, go1 (dig m.from_ :: dig m.to :: restW m) { zeroM with kind := k } = { m with kind := k } := fun k => by
    show goR (dig m.to :: restW m) { { zeroM with kind := k } with from_ := valR (dig m.from_), «to» := valR (dig m.to) } = _
    rw [go_dig, val_dig, val_dig, go_rest m _ rfl rfl rfl ⟨rfl, rfl, rfl, rfl⟩]
  unfold w0
  by_cases h : classOf m.kind = 0
  · rw [if_pos h]
    refine (cand_kind _ _).trans ?_
    rw [kfold_dig, val_dig]
    exact tail m.kind
  · rw [if_neg h]
    have hk : ((List.range 256).all fun k => decide (classes.getD k 0 = 0) || (!decide (kindNames.getD k [] = [107, 105, 110, 100]) && decide (kfold (kindNames.getD k []) 12 0 = UInt8.ofNat k))) = true := by kernel_rfl
    have h2 := List.all_eq_true.1 hk m.kind.toNat (List.mem_range.2 m.kind.toNat_lt)
    have h3 : ¬ classes.getD m.kind.toNat 0 = 0 := h
    rw [decide_eq_false h3, Bool.false_or, Bool.and_eq_true, UInt8.ofNat_toNat] at h2
    have h4 : ¬ kindNames.getD m.kind.toNat [] = [107, 105, 110, 100] := by simpa using h2.1
    have h5 := of_decide_eq_true h2.2
    refine (cand_name _ h4).trans ?_
    rw [h5]
    exact tail m.kind
/-- What the reference's Parse returns. -/
def parseR (s : List UInt8) : Msg × Int := if textOf (candR (sp [] s)) = s then (candR (sp [] s), 0) else (zeroM, 170)
theorem parse_same (s : List UInt8) : parseR s = parseL s := by
  unfold parseR
  by_cases h : ∃ m, textOf m = s
  · obtain ⟨m, rfl⟩ := h
    rw [cand_text, if_pos rfl, parse_text]
  · rw [if_neg (fun e => h ⟨_, e⟩)]
    unfold parseL
    rw [if_neg (fun e => h ⟨_, e.2⟩)]
end Go.Proofs.YtkekidalckflhaaDoor
