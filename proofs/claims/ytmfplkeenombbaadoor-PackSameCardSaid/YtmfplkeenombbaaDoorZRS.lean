/- For every input, seisinlaw22.PackSame returns true and its arguments read afterwards as they read before. Conditions: as the given card has them (package-level variables start as the program's text lays them; the copy of the program is pruned to the packages that the seat loads); none is added. -/
import Derived.Test.YtmfplkeenombbaaDoorZKPl3
import Derived.Test.YtmfplkeenombbaaDoorZ5
import Derived.Test.YtmfplkeenombbaaDoorTie
import Derived.Test.YtmfplkeenombbaaDoorCards
namespace Go.Proofs.YtmfplkeenombbaaDoor
open Go.Vc Go.Sei
open Go.ChangeShapes Go.WideShapes Go.ChangeAt Go.RowKit
set_option linter.unusedVariables false

set_option maxRecDepth 100000 in
theorem packSame_lifted (os : Os) (started : os.Started) (H : Type) (enc : TypeId × Value → H) :
    ReturnsInHanded {} Tryd.checked os 6 .any (fun w args => (Rows.packSameSpec.pre enc Tryd.prog Tryd.f6 [] false w args ∧ laidMetH Tryd.prog seatLaid w) ∧ sizedMet enc Tryd.prog Tryd.f6 (OpenSpec.ofChange Rows.packSameSpec) false w args)
      (Rows.packSameSpec.post enc Tryd.prog Tryd.f6 false true false false) := by
  refine returns_and_shaped (C := Tryd.checked) (X := fun w _ => laidMetH Tryd.prog seatLaid w) (fun _ _ _ hh h => h.of_heap hh) seat_own started (by kernel_rfl) Tryd.func6
    (ChangeSpec.witness_shaped (enc := enc) (C := Tryd.checked) (os := os) (X := fun w _ => laidMetH Tryd.prog seatLaid w) false (laidWorld os) #[.agg worldC.toArray, .agg zeroSysC.toArray, .agg zeroSysC.toArray] 8 rfl (World.shaped_of_RefB (by kernel_rfl) (by kernel_rfl)) (by kernel_rfl) (by kernel_rfl) (by kernel_rfl) (laidWorld_met os _)) ?_
  intro W base args ds gs before hval0 hW hL hsh
  have hval : ∀ (j : Nat) t v, Tryd.f6.params[j]? = some t → args[j]? = some v → Value.okWide Tryd.prog W .any base t v := hval0
  have hW' := hW
  obtain ⟨p, q, hA0, hV, rfl, hfz, hnd⟩ := hW
  have hA : DataW.TrodAll enc Tryd.prog W 0 (fun _ => true) true Tryd.f6.params.toList args.toList ds p := hA0
  rw [Tryd.params6] at hA hval
  obtain ⟨v0, vs0, d0, ds0, p0, q0, hargs0, rfl, rfl, h0, r0⟩ := trodAll_cons hA
  obtain ⟨v1, vs1, d1, ds1, p1, q1, hargs1, rfl, rfl, h1, r1⟩ := trodAll_cons r0
  obtain ⟨v2, vs2, d2, ds2, p2, q2, hargs2, rfl, rfl, h2, r2⟩ := trodAll_cons r1
  obtain ⟨e0, e1, e2⟩ := trodAll_nil r2
  subst e0 e1 e2
  obtain rfl : args = #[v0, v1, v2] := by cases args; simp_all
  obtain ⟨rfl, rfl⟩ := trodVars_none hV
  obtain ⟨a0, rfl⟩ : ∃ a, v0 = .agg a := by
    have := hval 0 44 v0 rfl rfl
    unfold Value.okWide at this
    rw [Tryd.underlying44] at this
    obtain ⟨cs, h, _⟩ := this
    exact ⟨cs, h⟩
  have lt0 : ∀ x ∈ p0, x.block < W.heap.size := by obtain ⟨m, hm⟩ := h0; exact DataW.trod_lt m _ _ _ hm
  obtain ⟨a1, rfl⟩ : ∃ a, v1 = .agg a := by
    have := hval 1 58 v1 rfl rfl
    unfold Value.okWide at this
    rw [Tryd.underlying58] at this
    obtain ⟨cs, h, _⟩ := this
    exact ⟨cs, h⟩
  have lt1 : ∀ x ∈ p1, x.block < W.heap.size := by obtain ⟨m, hm⟩ := h1; exact DataW.trod_lt m _ _ _ hm
  obtain ⟨a2, rfl⟩ : ∃ a, v2 = .agg a := by
    have := hval 2 58 v2 rfl rfl
    unfold Value.okWide at this
    rw [Tryd.underlying58] at this
    obtain ⟨cs, h, _⟩ := this
    exact ⟨cs, h⟩
  have lt2 : ∀ x ∈ p2, x.block < W.heap.size := by obtain ⟨m, hm⟩ := h2; exact DataW.trod_lt m _ _ _ hm
  obtain ⟨g0, mode0, hw0⟩ := open_worv h0
  obtain ⟨s1, hs1, hn1⟩ := open_sysv h1
  obtain ⟨s2, hs2, hn2⟩ := open_sysv h2
  refine (packSame_c  hw0 hs1 hn1.c hs2 hn2.c (globp_of_laid hL hsh)).mono fun e W' ⟨he, bel⟩ => ?_
  subst he
  exact ⟨_, rfl, _, _, _, [], _, [], hW', trodAll_mk1 (shut_bool Tryd.underlying4 _), (trodAll_cons_mk (Below.trod seat_laidOut (by kernel_rfl) (of_decide_eq_true (by kernel_rfl)) h0 bel lt0) (trodAll_cons_mk (Below.trod seat_laidOut (by kernel_rfl) (of_decide_eq_true (by kernel_rfl)) h1 bel lt1) (trodAll_cons_mk (Below.trod seat_laidOut (by kernel_rfl) (of_decide_eq_true (by kernel_rfl)) h2 bel lt2) trodAll_mk0))), rfl, bel.frame _, fun h => by cases h⟩

theorem packSame_holds : Rows.PackSameSaid :=
  OpenClaim.holds_of_wide 6 Tryd.f6 rfl rfl rfl rfl rfl rfl rfl ⟨rfl, rfl, rfl, rfl, rfl⟩ rfl rfl rfl rfl rfl (by kernel_rfl) Tryd.func6 (by kernel_rfl)
    (of_decide_eq_true (by kernel_rfl)) (by unfold Func.isWrapper; first | (rw [if_pos (by decide +kernel)]; kernel_rfl) | (rw [if_neg (by decide +kernel)]; exact ⟨rfl, rfl⟩))
    (fun os started H enc _ => packSame_lifted os started H enc)

theorem packSame_card : Rows.PackSameCardSaid :=
  Claim7.holds_tied_plain_at .later [] [.data, .data] true (true, "a741fe661f09b6c65b4d18a9944c8af81e7638361fa594b7a5c68239d306b9f3") false
    packSame_holds (fun _ h => by cases h) (by kernel_rfl) (fun _ h => by cases h) packSame_row_tie rfl ⟨rfl, rfl⟩ (by kernel_rfl) rfl
    (fun f fn hf hfn => by
      obtain rfl : f = 6 := Option.some.inj ((show Tryd.prog.funcNamed "seisin/seisinlaw22.PackSame" = some 6 by kernel_rfl).symm.trans hf) |>.symm
      obtain rfl : fn = Tryd.f6 := (Option.some.inj (Tryd.func6.symm.trans hfn)).symm
      exact ⟨by kernel_rfl, fun j t ht => by
        rw [Tryd.params6] at ht
        rcases j with _ | _ | _ | j
        · obtain rfl : t = 44 := by simpa using ht.symm
          exact (show Tryd.prog.wantsStandIn 44 = false by kernel_rfl)
        · obtain rfl : t = 58 := by simpa using ht.symm
          exact (show Tryd.prog.wantsStandIn 58 = false by kernel_rfl)
        · obtain rfl : t = 58 := by simpa using ht.symm
          exact (show Tryd.prog.wantsStandIn 58 = false by kernel_rfl)
        · simp at ht⟩)
    (by kernel_rfl)
#print axioms packSame_card
end Go.Proofs.YtmfplkeenombbaaDoor
