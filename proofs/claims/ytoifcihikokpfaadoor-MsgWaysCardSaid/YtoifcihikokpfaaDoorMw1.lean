/- The law MsgWays: plain facts of valid messages. -/
import Derived.Test.YtoifcihikokpfaaDoorGl3
namespace Go.Proofs.YtoifcihikokpfaaDoor
open Go.Vc Go.RowKit Go.Sei

theorem home_facts {g : Geo} (hR : geoR g = true) (n : UInt8) : isHome g (homeOf g n) = true ∧ isCache g (homeOf g n) = false ∧ ((homeOf g n).toNat : Int) < nodesOf g := by
  obtain ⟨c, h, w', s, a, rfl, hc, hh, _⟩ := geoR_nat hR
  obtain ⟨q, hq⟩ : ∃ q, q = n.toNat % h := ⟨_, rfl⟩
  have hm : n.toNat % h < h := Nat.mod_lt _ (by omega)
  rw [← hq] at hm
  have e1 : homeOf ⟨c, h, w', s, a⟩ n = UInt8.ofNat (c + q) := by unfold homeOf; rw [hR, hq]; rfl
  have e2 : (homeOf ⟨c, h, w', s, a⟩ n).toNat = c + q := by rw [e1, UInt8.toNat_ofNat', Nat.mod_eq_of_lt (by omega)]
  refine ⟨?_, ?_, ?_⟩
  · unfold isHome amongOf
    rw [hR, e2, decide_eq_true (by show (c : Int) ≤ _; omega), decide_eq_true (by show _ < (c : Int) + (h : Int); omega)]; rfl
  · unfold isCache amongOf
    rw [hR, e2, decide_eq_false (p := ((c + q : Nat) : Int) < 0 + (c : Int)) (by omega)]
    simp
  · unfold nodesOf
    rw [hR, e2]
    show _ < (c : Int) + (h : Int)
    omega
theorem cache_facts {g : Geo} (hR : geoR g = true) {n : UInt8} (h : isCache g n = true) : isHome g n = false ∧ (n.toNat : Int) < nodesOf g := by
  have hs := geoR_spec hR
  unfold isCache amongOf at h
  simp only [Bool.and_eq_true, decide_eq_true_eq] at h
  refine ⟨?_, ?_⟩
  · unfold isHome amongOf
    rw [decide_eq_false (p := g.c ≤ (n.toNat : Int)) (by omega)]; simp
  · unfold nodesOf; rw [hR]
    show (n.toNat : Int) < g.c + g.h
    omega

structure Ways (g : Geo) (m : Msg) : Prop where
  geo : geoR g = true
  fn : (m.from_.toNat : Int) < nodesOf g
  tn : (m.to.toNat : Int) < nodesOf g
  ne : m.from_ ≠ m.to
  one : isCache g m.from_ = true ∨ isCache g m.to = true
  c1 : 1 ≤ (classOf m.kind).toNat
  c3 : (classOf m.kind).toNat ≤ 3
  acks : (m.acks.toNat : Int) < g.c
  k1 : classOf m.kind = 1 → m.to = homeOf g m.line
  k2 : classOf m.kind = 2 → m.from_ = homeOf g m.line
  ht : isHome g m.to = true → m.to = homeOf g m.line
  hf : isHome g m.from_ = true → m.from_ = homeOf g m.line
  ask : m.asker ≠ 0 → isCache g m.asker = true ∧ m.asker ≠ m.to
  al : m.alone = true → m.kind = 10 ∧ m.from_ = homeOf g m.line

theorem ways_of_right {g : Geo} {m : Msg} (h : rightL g m = true) : Ways g m := by
  unfold rightL at h
  simp only [Bool.and_eq_true, decide_eq_true_eq, Bool.not_eq_true', decide_eq_false_iff_not] at h
  obtain ⟨⟨⟨⟨hR, hk⟩, hu⟩, hln⟩, ⟨he, hv⟩, hp⟩ := h
  unfold endsL at he
  simp only [Bool.and_eq_true, Bool.not_eq_true', decide_eq_false_iff_not] at he
  obtain ⟨⟨hfr, hto⟩, hne⟩ := he
  unfold valuesL at hv
  simp only [Bool.and_eq_true, Bool.not_eq_true', decide_eq_true_eq, Bool.or_eq_true] at hv
  obtain ⟨hbad, hac, hal⟩ := hv
  have hp : pl4 m g (useOf m) = m := of_decide_eq_true hp
  -- the kinds, one by one
  have tab : ((List.range 13).all fun k => decide (usesL.getD k 0 = 0) ||
      (decide (1 ≤ (classes.getD k 0).toNat) && decide ((classes.getD k 0).toNat ≤ 3) &&
       (decide (classes.getD k 0 = 1) == (hasB (usesL.getD k 0) 64 && !hasB (usesL.getD k 0) 128 && decide (classes.getD k 0 = 1))) &&
       (decide (classes.getD k 0 = 2) == (hasB (usesL.getD k 0) 16 && !hasB (usesL.getD k 0) 32 && decide (classes.getD k 0 = 2))) &&
       ((hasB (usesL.getD k 0) 32 && !hasB (usesL.getD k 0) 16) || (hasB (usesL.getD k 0) 128 && !hasB (usesL.getD k 0) 64)) &&
       (!hasB (usesL.getD k 0) 4 || decide (k = 10)))) = true := by kernel_rfl
  have t := List.all_eq_true.1 tab m.kind.toNat (List.mem_range.2 hk)
  have hu' : ¬ usesL.getD m.kind.toNat 0 = 0 := hu
  rw [decide_eq_false hu', Bool.false_or] at t
  have eb : usesL.getD m.kind.toNat 0 = useOf m := rfl
  have ec : classes.getD m.kind.toNat 0 = classOf m.kind := rfl
  rw [eb, ec] at t
  simp only [Bool.and_eq_true, decide_eq_true_eq] at t
  obtain ⟨⟨⟨⟨⟨t1, t2⟩, t3⟩, t4⟩, t5⟩, t6⟩ := t
  have hfrom : (hasB (useOf m) 16 = true ∧ m.from_ = homeOf g m.line) ∨ (hasB (useOf m) 32 = true ∧ isCache g m.from_ = true) := by
    unfold fromL at hfr
    simpa only [Bool.or_eq_true, Bool.and_eq_true, decide_eq_true_eq] using hfr
  have htoo : (hasB (useOf m) 64 = true ∧ m.to = homeOf g m.line) ∨ (hasB (useOf m) 128 = true ∧ isCache g m.to = true) := by
    unfold toL at hto
    simpa only [Bool.or_eq_true, Bool.and_eq_true, decide_eq_true_eq] using hto
  obtain ⟨hh1, hh2, hh3⟩ := home_facts hR m.line
  have hask : m.asker = if hasB (useOf m) 1 then m.asker else 0 := by
    have e := congrArg Msg.asker hp
    have e2 : (pl4 m g (useOf m)).asker = if hasB (useOf m) 1 then m.asker else 0 := by
      unfold pl4 dcut pl3 pl2 pl1 pl0
      cases hasB (useOf m) 1 <;> cases hasB (useOf m) 2 <;> cases hasB (useOf m) 4 <;> cases hasB (useOf m) 8 <;> rfl
    rw [← e2]; exact e.symm
  have halo : m.alone = if hasB (useOf m) 4 then m.alone else false := by
    have e := congrArg Msg.alone hp
    have e2 : (pl4 m g (useOf m)).alone = if hasB (useOf m) 4 then m.alone else false := by
      unfold pl4 dcut pl3 pl2 pl1 pl0
      cases hasB (useOf m) 1 <;> cases hasB (useOf m) 2 <;> cases hasB (useOf m) 4 <;> cases hasB (useOf m) 8 <;> rfl
    rw [← e2]; exact e.symm
  refine ⟨hR, ?_, ?_, hne, ?_, t1, t2, hac, ?_, ?_, ?_, ?_, ?_, ?_⟩
  · rcases hfrom with ⟨_, e⟩ | ⟨_, e⟩
    · rw [e]; exact hh3
    · exact (cache_facts hR e).2
  · rcases htoo with ⟨_, e⟩ | ⟨_, e⟩
    · rw [e]; exact hh3
    · exact (cache_facts hR e).2
  · rcases hfrom with ⟨a1, _⟩ | ⟨_, e⟩
    · rcases htoo with ⟨a2, _⟩ | ⟨_, e⟩
      · rw [a1, a2] at t5; simp at t5
      · exact .inr e
    · exact .inl e
  · intro hc
    rw [hc] at t3
    rcases htoo with ⟨_, e⟩ | ⟨a2, e⟩
    · exact e
    · rw [a2] at t3; simp at t3
  · intro hc
    rw [hc] at t4
    rcases hfrom with ⟨_, e⟩ | ⟨a2, e⟩
    · exact e
    · rw [a2] at t4; simp at t4
  · intro hc
    rcases htoo with ⟨_, e⟩ | ⟨_, e⟩
    · exact e
    · rw [(cache_facts hR e).1] at hc; cases hc
  · intro hc
    rcases hfrom with ⟨_, e⟩ | ⟨_, e⟩
    · exact e
    · rw [(cache_facts hR e).1] at hc; cases hc
  · intro ha
    cases h1 : hasB (useOf m) 1 with
    | false => rw [h1] at hask; exact absurd hask ha
    | true =>
      unfold badAsk at hbad
      rw [h1] at hbad
      simp at hbad
      exact ⟨hbad.1, hbad.2⟩
  · intro ha
    cases h4 : hasB (useOf m) 4 with
    | false => rw [h4, ha] at halo; cases halo
    | true =>
      rw [h4] at t6
      simp at t6
      refine ⟨UInt8.toNat_inj.1 t6, ?_⟩
      rw [ha] at hal
      simp at hal
      rcases hfrom with ⟨_, e⟩ | ⟨_, e⟩
      · exact e
      · rw [hal] at e; cases e
end Go.Proofs.YtoifcihikokpfaaDoor
