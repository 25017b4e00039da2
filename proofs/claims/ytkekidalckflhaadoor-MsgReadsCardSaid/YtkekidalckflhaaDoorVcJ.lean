/- The engine, part J: joins: code of which some sequences are cut at a state of their own. -/
import Derived.Test.YtkekidalckflhaaDoorVcG
namespace Go.Vc
open Go.RowKit

/-- How the code is taken: p plain; s a sequence; c a sequence cut at its join; d a condition; b a block; l a loop. -/
inductive Mk where
  | p
  | s (a b : Mk)
  | c (a b : Mk)
  | d (a b : Mk)
  | b (a : Mk)
  | l (a : Mk)

def CutE (first : (Exit → Env → World → Prop) → Prop) (second : Env → World → (Exit → Env → World → Prop) → Prop) (Q : Exit → Env → World → Prop) : Prop :=
  ∃ (σ : Type) (env : σ → Env) (inv : σ → World → Prop), (first fun ex E' w' => match ex with
    | .normal => ∃ s, Cov E' (env s) ∧ inv s w'
    | ex => Q ex E' w') ∧ ∀ s w', inv s w' → second (env s) w' Q

/-- What the code owes, taken as m says. (By the recursor itself: what the kernel unfolds is then what was typed.) -/
noncomputable def wpM (S : Sig) (m : Mk) : Code → Env → World → (Exit → Env → World → Prop) → Prop :=
  Mk.rec (motive := fun _ => Code → Env → World → (Exit → Env → World → Prop) → Prop)
    (fun c E w Q => wpE S c E w Q)
    (fun _ _ ia ib c E w Q => match c with
      | .seq x y => ia x E w fun ex E' w' => match ex with
        | .normal => ib y E' w' Q
        | ex => Q ex E' w'
      | _ => False)
    (fun _ _ ia ib c E w Q => match c with
      | .seq x y => CutE (fun Q => ia x E w Q) (fun E w Q => ib y E w Q) Q
      | _ => False)
    (fun _ _ ia ib c E w Q => match c with
      | .cond c x y => (match opd E c with
        | some (.bool v) => Br v (ia x E w Q) (ib y E w Q)
        | _ => False)
      | _ => False)
    (fun _ ia c E w Q => match c with
      | .block id x => ia x E w fun ex E' w' => match ex with
        | .exit id' => (match Nat.beq id' id with
          | true => Q .normal E' w'
          | false => Q (.exit id') E' w')
        | ex => Q ex E' w'
      | _ => False)
    (fun _ ia c E w Q => match c with
      | .loop x => LoopE (fun E w Q => ia x E w Q) E w Q
      | _ => False)
    m

section
variable {S : Sig}

theorem wpM_sound (hS : SigOk S) : ∀ (m : Mk) (c : Code) (E : Env) (a : Act) (w : World) (Q : Exit → Env → World → Prop), Agrees S a E → wpM S m c E w Q → c.wpIn (FR S.r) NN S.P (lift S Q) a w
  | .p, c, E, a, w, Q, ha, h => wpE_sound hS c E a w Q ha h
  | .s m k, .seq x y, E, a, w, Q, ha, h => by
    replace h : (wpM S m x E w fun ex E' w' => match ex with | .normal => wpM S k y E' w' Q | ex => Q ex E' w') := h
    refine wpIn_seq ?_
    refine wpIn_mono (wpM_sound hS m x E a w _ ha h) ?_
    rintro ex a' w' ⟨E', ha', hq⟩
    cases ex with
    | normal => exact wpM_sound hS k y E' a' w' Q ha' hq
    | _ => exact ⟨E', ha', hq⟩
  | .c m k, .seq x y, E, a, w, Q, ha, h => by
    replace h : CutE (fun Q => wpM S m x E w Q) (fun E w Q => wpM S k y E w Q) Q := h
    obtain ⟨σ, env, inv, h1, h2⟩ := h
    refine wpIn_seq ?_
    refine wpIn_mono (wpM_sound hS m x E a w _ ha h1) ?_
    rintro ex a' w' ⟨E', ha', hq⟩
    cases ex with
    | normal =>
      obtain ⟨s, hc, hi⟩ := hq
      exact wpM_sound hS k y (env s) a' w' Q (ha'.cov hc) (h2 s w' hi)
    | _ => exact ⟨E', ha', hq⟩
  | .d m k, .cond c x y, E, a, w, Q, ha, h => by
    replace h : (match opd E c with | some (.bool v) => Br v (wpM S m x E w Q) (wpM S k y E w Q) | _ => False) := h
    split at h
    · rename_i b hb
      refine wpIn_cond_split (ha.eval hb) (fun e => wpM_sound hS m x E a w Q ha (h.1 e)) (fun e => wpM_sound hS k y E a w Q ha (h.2 e))
    · exact h.elim
  | .b m, .block id x, E, a, w, Q, ha, h => by
    replace h : (wpM S m x E w fun ex E' w' => match ex with | .exit id' => (match Nat.beq id' id with | true => Q .normal E' w' | false => Q (.exit id') E' w') | ex => Q ex E' w') := h
    refine wpIn_block ?_
    refine wpIn_mono (wpM_sound hS m x E a w _ ha h) ?_
    rintro ex a' w' ⟨E', ha', hq⟩
    cases ex with
    | exit id' =>
      simp only [Exit.inBlock]
      dsimp only at hq
      split at hq
      · rename_i hb; rw [if_pos (Nat.eq_of_beq_eq_true hb)]; exact ⟨E', ha', hq⟩
      · rename_i hb; rw [if_neg (Nat.ne_of_beq_eq_false hb)]; exact ⟨E', ha', hq⟩
    | _ => exact ⟨E', ha', hq⟩
  | .l m, .loop x, E, a, w, Q, ha, h => by
    replace h : LoopE (fun E w Q => wpM S m x E w Q) E w Q := h
    obtain ⟨σ, env, inv, μ, s0, hc, hi, hb⟩ := h
    have key : ∀ m s a w, μ s = m → Agrees S a (env s) → inv s w → (Code.loop x).wpIn (FR S.r) NN S.P (lift S Q) a w := by
      intro m' s a w hm ha hi
      refine wpIn_loop (fun a w => ∃ s, Agrees S a (env s) ∧ inv s w) (fun a w => leastOf (fun k => ∃ s, Agrees S a (env s) ∧ inv s w ∧ μ s = k)) ⟨s, ha, hi⟩ ?_
      intro a w ⟨s1, ha1, hi1⟩
      obtain ⟨⟨s2, ha2, hi2, hm2⟩, _⟩ := leastOf_spec (p := fun k => ∃ s, Agrees S a (env s) ∧ inv s w ∧ μ s = k) ⟨_, s1, ha1, hi1, rfl⟩
      refine wpIn_mono (wpM_sound hS m x (env s2) a w _ ha2 (hb s2 w hi2)) ?_
      rintro ex a' w' ⟨E', ha', hq⟩
      cases ex with
      | normal =>
        obtain ⟨s', hc', hi', hlt⟩ := hq
        refine ⟨⟨s', ha'.cov hc', hi'⟩, ?_⟩
        have := (leastOf_spec (p := fun k => ∃ s, Agrees S a' (env s) ∧ inv s w' ∧ μ s = k) ⟨_, s', ha'.cov hc', hi', rfl⟩).2
        rw [← hm2]
        exact Nat.lt_of_le_of_lt (this _ ⟨s', ha'.cov hc', hi', rfl⟩) hlt
      | _ => exact ⟨E', ha', hq⟩
    exact key _ s0 a w rfl (ha.cov hc) hi
  | .s _ _, .skip, _, _, _, _, _, h => h.elim
  | .s _ _, .region _ _ _, _, _, _, _, _, h => h.elim
  | .s _ _, .cond _ _ _, _, _, _, _, _, h => h.elim
  | .s _ _, .block _ _, _, _, _, _, _, h => h.elim
  | .s _ _, .loop _, _, _, _, _, _, h => h.elim
  | .s _ _, .rangeFunc _ _ _ _, _, _, _, _, _, h => h.elim
  | .s _ _, .exit _, _, _, _, _, _, h => h.elim
  | .s _ _, .scope _, _, _, _, _, _, h => h.elim
  | .s _ _, .label _, _, _, _, _, _, h => h.elim
  | .s _ _, .goto _, _, _, _, _, _, h => h.elim
  | .s _ _, .ret, _, _, _, _, _, h => h.elim
  | .s _ _, .refuse _, _, _, _, _, _, h => h.elim
  | .c _ _, .skip, _, _, _, _, _, h => h.elim
  | .c _ _, .region _ _ _, _, _, _, _, _, h => h.elim
  | .c _ _, .cond _ _ _, _, _, _, _, _, h => h.elim
  | .c _ _, .block _ _, _, _, _, _, _, h => h.elim
  | .c _ _, .loop _, _, _, _, _, _, h => h.elim
  | .c _ _, .rangeFunc _ _ _ _, _, _, _, _, _, h => h.elim
  | .c _ _, .exit _, _, _, _, _, _, h => h.elim
  | .c _ _, .scope _, _, _, _, _, _, h => h.elim
  | .c _ _, .label _, _, _, _, _, _, h => h.elim
  | .c _ _, .goto _, _, _, _, _, _, h => h.elim
  | .c _ _, .ret, _, _, _, _, _, h => h.elim
  | .c _ _, .refuse _, _, _, _, _, _, h => h.elim
  | .d _ _, .skip, _, _, _, _, _, h => h.elim
  | .d _ _, .region _ _ _, _, _, _, _, _, h => h.elim
  | .d _ _, .seq _ _, _, _, _, _, _, h => h.elim
  | .d _ _, .block _ _, _, _, _, _, _, h => h.elim
  | .d _ _, .loop _, _, _, _, _, _, h => h.elim
  | .d _ _, .rangeFunc _ _ _ _, _, _, _, _, _, h => h.elim
  | .d _ _, .exit _, _, _, _, _, _, h => h.elim
  | .d _ _, .scope _, _, _, _, _, _, h => h.elim
  | .d _ _, .label _, _, _, _, _, _, h => h.elim
  | .d _ _, .goto _, _, _, _, _, _, h => h.elim
  | .d _ _, .ret, _, _, _, _, _, h => h.elim
  | .d _ _, .refuse _, _, _, _, _, _, h => h.elim
  | .b _, .skip, _, _, _, _, _, h => h.elim
  | .b _, .region _ _ _, _, _, _, _, _, h => h.elim
  | .b _, .seq _ _, _, _, _, _, _, h => h.elim
  | .b _, .cond _ _ _, _, _, _, _, _, h => h.elim
  | .b _, .loop _, _, _, _, _, _, h => h.elim
  | .b _, .rangeFunc _ _ _ _, _, _, _, _, _, h => h.elim
  | .b _, .exit _, _, _, _, _, _, h => h.elim
  | .b _, .scope _, _, _, _, _, _, h => h.elim
  | .b _, .label _, _, _, _, _, _, h => h.elim
  | .b _, .goto _, _, _, _, _, _, h => h.elim
  | .b _, .ret, _, _, _, _, _, h => h.elim
  | .b _, .refuse _, _, _, _, _, _, h => h.elim
  | .l _, .skip, _, _, _, _, _, h => h.elim
  | .l _, .region _ _ _, _, _, _, _, _, h => h.elim
  | .l _, .seq _ _, _, _, _, _, _, h => h.elim
  | .l _, .cond _ _ _, _, _, _, _, _, h => h.elim
  | .l _, .block _ _, _, _, _, _, _, h => h.elim
  | .l _, .rangeFunc _ _ _ _, _, _, _, _, _, h => h.elim
  | .l _, .exit _, _, _, _, _, _, h => h.elim
  | .l _, .scope _, _, _, _, _, _, h => h.elim
  | .l _, .label _, _, _, _, _, _, h => h.elim
  | .l _, .goto _, _, _, _, _, _, h => h.elim
  | .l _, .ret, _, _, _, _, _, h => h.elim
  | .l _, .refuse _, _, _, _, _, _, h => h.elim

/-- A function's contract from its body, taken as m says. -/
theorem calls_of_M (hS : SigOk S) {f : FuncId} {fn : Func} {c : Code} {args : List Value} {w : World} {R : Ending → World → Prop} (m : Mk)
    (hf : S.P.funcs[f]? = some fn) (hb : fn.body = some c) (hn : fn.ntmps = S.n) (hle : args.length ≤ S.n) (hr : S.r = none)
    (h : wpM S m c ⟨argsE 0 args, []⟩ w (postE S fn R)) : Calls S.P f args.toArray w R := by
  rw [← callsIn_wide (n := NN)]
  have hF : FR none = Fence.wide := rfl
  rw [← hF]
  refine callsIn_of_wp_marks hf hb trivial ?_
  have ha : Agrees S { tmps := args.toArray ++ Array.replicate (fn.ntmps - args.toArray.size) undef, defers := [] } ⟨argsE 0 args, []⟩ := by
    refine ⟨?_, rfl, fun t v hv => ?_⟩
    · simp [hn]; omega
    · obtain ⟨_, h2⟩ := argsE_find _ _ _ _ hv
      simp only [Nat.sub_zero] at h2
      have hlt : t < args.length := (List.getElem?_eq_some_iff.1 h2).1
      simp only [Array.getElem?_append, List.size_toArray, hlt, if_true]
      simpa using h2
  have h1 := wpM_sound hS m c _ _ w _ ha h
  rw [hr] at h1
  refine wpIn_mono h1 ?_
  rintro ex a' w' ⟨E', ha', hq⟩
  cases ex with
  | normal => have := leaveE_sound hS ha' _ _ hq; rw [← ha'.defers] at this; exact this
  | ret => have := leaveE_sound hS ha' _ _ hq; rw [← ha'.defers] at this; exact this
  | panic ch =>
    obtain ⟨hd, hR⟩ := hq
    show LeavesInM _ _ _ _ _ _ a'.defers _ _
    rw [ha'.defers, hd]
    exact hR
  | exit _ => exact hq.elim
  | goto _ => exact hq.elim
  | outgrown => exact hq.elim
end
end Go.Vc
