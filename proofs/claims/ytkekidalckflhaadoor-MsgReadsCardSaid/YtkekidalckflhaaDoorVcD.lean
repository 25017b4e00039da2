/- The engine, part D: the operations that leave the world alone: sound. -/
import Derived.Test.YtkekidalckflhaaDoorVcC
namespace Go.Vc
open Go.RowKit

theorem below_cell {w w2 : World} (hb : Below w.heap.size w w2) {p : Addr} {u : Value} (h : w.cell? p = some u) : w2.cell? p = some u :=
  (hb.cell (World.block_lt_of_cell? w p h)).trans h

theorem idx_elim {vi : Value} {n : Nat} {g : Nat → Prop} (h : idx vi n g) : ∃ k j, vi = .int k (j : Nat) ∧ j < n ∧ g j := by
  unfold idx at h
  split at h
  · rename_i k i
    obtain ⟨j, rfl, hj, hg⟩ := h
    exact ⟨k, j, rfl, hj, hg⟩
  · exact h.elim

theorem loadVar_agg {P : Program} {w : World} {T : Nat} {i : TI} (ht : TIok P T i) (ha : i.agg = true) {p : Addr} {vs : List Value} (hl : vs.length = i.size) (hc : Cells w p vs) :
    (loadVar T p).run P w = .ok (.agg vs.toArray) w := by
  obtain ⟨⟨inf, hi, hs, _, _⟩, d, hd, hda, _⟩ := ht
  have hagg : (isAgg T).run P w = .ok true w := by
    simp only [isAgg, Sem.run_bind, run_underlying hd, Result.andThen_ok]
    rw [← ha, ← hda]; cases d <;> rfl
  have hsz : (sizeOf T).run P w = .ok vs.length w := by
    rw [hl, ← hs]; simp [sizeOf, typeInfo, hi]
  have hld := run_loadCells_list (P := P) w p vs hc
  simp only [loadVar, Sem.run_bind, hagg, Result.andThen_ok, if_true, hsz, hld, Sem.run_pure]

theorem loadVar_one {P : Program} {w : World} {T : Nat} {i : TI} (ht : TIok P T i) (ha : i.agg = false) {p : Addr} {u : Value} (hc : w.cell? p = some u) :
    (loadVar T p).run P w = .ok u w := by
  obtain ⟨_, d, hd, hda, _⟩ := ht
  have hagg : (isAgg T).run P w = .ok false w := by
    simp only [isAgg, Sem.run_bind, run_underlying hd, Result.andThen_ok]
    rw [← ha, ← hda]; cases d <;> rfl
  simp only [loadVar, Sem.run_bind, hagg, Result.andThen_ok, Bool.false_eq_true, if_false, run_load, hc]

theorem cells_below {w w2 : World} (hb : Below w.heap.size w w2) {p : Addr} {vs : List Value} (h : Cells w p vs) : Cells w2 p vs :=
  fun i v hv => below_cell hb (h i v hv)

def RunsTo (S : Sig) (E : Env) (o : Oper) (w : World) (v : Value) : Prop :=
  ∀ a, Agrees S a E → ∀ w2, (isN o.op = true ∨ Below w.heap.size w w2) → (execOp a.eval o).run S.P w2 = .ok (.value v) w2

theorem indexAddrE_run {S : Sig} (hS : SigOk S) {T : Nat} {vx vi : Value} {K : Value → Prop} (h : indexAddrE (TT.get S.τ T) vx vi K) :
    ∃ v, K v ∧ ∀ w, (Instr.indexAt T vx vi).run S.P w = .ok v w := by
  unfold indexAddrE at h
  split at h
  · rename_i e esz _ _ _ _ ht
    obtain ⟨_, d, hd, _, hk⟩ := hS.ty _ _ ht
    obtain ⟨rfl, he, hn⟩ := hk
    split at h
    · rename_i b o len cap
      obtain ⟨k, j, rfl, hj, hg⟩ := idx_elim h
      refine ⟨_, hg, fun w => ?_⟩
      simp [Instr.indexAt, asIntOf, run_underlying hd, size_run hn he, hj, addr_add]
    · exact h.elim
  · rename_i n e esz eagg _ _ _ _ ht
    obtain ⟨_, d, hd, _, hk⟩ := hS.ty _ _ ht
    obtain ⟨rfl, he, _, hn⟩ := hk
    split at h
    · rename_i b o
      obtain ⟨k, j, rfl, hj, hg⟩ := idx_elim h
      refine ⟨_, hg, fun w => ?_⟩
      simp [Instr.indexAt, asIntOf, run_underlying hd, size_run hn he, hj, addr_add, Instr.sureAddr]
    · exact h.elim
  · exact h.elim

theorem sliceE_run {S : Sig} (hS : SigOk S) {T : Nat} {vx : Value} {lo hi : Option Value} {K : Value → Prop} (h : sliceE (TT.get S.τ T) vx lo hi K) :
    ∃ v, K v ∧ ∀ w, (Instr.sliceAt T vx lo hi none).run S.P w = .ok v w := by
  unfold sliceE at h
  split at h
  · rename_i e esz _ _ _ _ ht
    obtain ⟨_, d, hd, _, hk⟩ := hS.ty _ _ ht
    obtain ⟨rfl, he, hn⟩ := hk
    split at h
    · rename_i base len cap
      obtain ⟨l, hh, hg, hr⟩ := sliceBounds_run (P := S.P) (isSlice := true) h
      refine ⟨_, hg, fun w => ?_⟩
      simp only [Instr.sliceAt, Sem.run_bind, run_underlying hd, Result.andThen_ok, Instr.slice, hr w, size_run hn he w, Sem.run_pure, cutBase]
    · exact h.elim
  · rename_i n e esz eagg _ _ _ _ ht
    obtain ⟨_, d, hd, _, hk⟩ := hS.ty _ _ ht
    obtain ⟨rfl, he, _, hn⟩ := hk
    split at h
    · rename_i a
      obtain ⟨l, hh, hg, hr⟩ := sliceBounds_run (P := S.P) (isSlice := false) h
      refine ⟨_, hg, fun w => ?_⟩
      simp only [Instr.sliceAt, Sem.run_bind, run_underlying hd, Result.andThen_ok, hr w, size_run hn he w, Sem.run_pure, Instr.sureAddr, cutBase]
      split <;> simp_all
    · exact h.elim
  · rename_i _ _ _ _ ht
    obtain ⟨_, d, hd, _, hk⟩ := hS.ty _ _ ht
    obtain rfl := hk
    split at h
    · rename_i s
      obtain ⟨l, hh, hg, hr⟩ := sliceBounds_run (P := S.P) (isSlice := false) h
      refine ⟨_, hg, fun w => ?_⟩
      simp only [Instr.sliceAt, Sem.run_bind, run_underlying hd, Result.andThen_ok, Instr.slice, hr w, Sem.run_pure, Option.isSome_none, Bool.false_eq_true, if_false]
    · exact h.elim
  · exact h.elim

theorem fieldE_elim {S : Sig} (hS : SigOk S) {T f : Nat} {g : Nat → Nat → Bool → Prop} (h : fieldE (TT.get S.τ T) f g) :
    ∃ (F : Array Field) (fd : Field), S.P.underlying T = some (.struct F) ∧ F[f]? = some fd ∧ g fd.offset (S.P.cellsOf fd.type) (((S.P.underlying fd.type).map aggOf).getD false) ∧ Known S.P fd.type := by
  unfold fieldE at h
  split at h
  · rename_i fs _ _ _ _ ht
    obtain ⟨_, d, hd, _, hk⟩ := hS.ty _ _ ht
    obtain ⟨F, rfl, rfl, hn⟩ := hk
    split at h
    · rename_i off sz agg hf
      rw [List.getElem?_map] at hf
      cases hF : F.toList[f]? with
      | none => rw [hF] at hf; simp at hf
      | some fd =>
        rw [hF] at hf
        simp only [Option.map_some, Option.some.injEq, Prod.mk.injEq] at hf
        obtain ⟨rfl, rfl, rfl⟩ := hf
        exact ⟨F, fd, hd, by simpa using hF, h, hn fd (List.mem_of_getElem? hF)⟩
    · exact h.elim
  · exact h.elim

theorem pureE_sound {S : Sig} (hS : SigOk S) {E : Env} {o : Oper} {w : World} {K : Value → Prop} (h : pureE S E o.op w K) : ∃ v, K v ∧ RunsTo S E o w v := by
  obtain ⟨dst, op, type, pos, after, guard⟩ := o
  cases op <;> simp only [pureE] at h
  case move x =>
    obtain ⟨v, hv, hk⟩ := with1_elim h
    exact ⟨v, hk, fun a ha w2 _ => by simp [execOp, ha.eval hv]⟩
  case assign x =>
    obtain ⟨v, hv, hk⟩ := with1_elim h
    exact ⟨v, hk, fun a ha w2 _ => by simp [execOp, ha.eval hv]⟩
  case pick c x y =>
    replace h := with1_elim h
    obtain ⟨vc, hc, h⟩ := h
    replace h := with1_elim h
    obtain ⟨va, hx, h⟩ := h
    replace h := with1_elim h
    obtain ⟨vb, hy, h⟩ := h
    split at h
    · rename_i t
      refine ⟨_, h, fun a ha w2 _ => ?_⟩
      simp only [execOp, ha.eval hc, ha.eval hx, ha.eval hy, asBool, Sem.run_bind, Sem.run_pure, Result.andThen_ok]
      cases t <;> rfl
    · exact h.elim
  case binOp op T x y yt =>
    replace h := with1_elim h
    obtain ⟨vx, hx, h⟩ := h
    replace h := with1_elim h
    obtain ⟨vy, hy, h⟩ := h
    obtain ⟨v, hk, hr⟩ := binE_run h
    refine ⟨v, hk, fun a ha w2 _ => ?_⟩
    simp only [execOp, ha.eval hx, ha.eval hy]
    rw [Sem.run_bind, hr w2]
    rfl
  case unOp op T x =>
    replace h := with1_elim h
    obtain ⟨v, hv, h⟩ := h
    split at h
    · exact ⟨_, h, fun a ha w2 _ => by simp [execOp, ha.eval hv, Op.unary]⟩
    · obtain ⟨r, e, hk⟩ := h
      exact ⟨_, hk, fun a ha w2 _ => by simp only [Int.zero_sub] at e; simp [execOp, ha.eval hv, Op.unary, Op.intArith, e]⟩
    · obtain ⟨u, hu, hk⟩ := h
      exact ⟨u, hk, fun a ha w2 _ => by simp only [execOp, ha.eval hv]; rw [Sem.run_bind, hu w2]; rfl⟩
  case convert s d x =>
    replace h := with1_elim h
    obtain ⟨v, hv, h⟩ := h
    split at h
    · rename_i hs hd
      obtain ⟨_, ds, hds, _⟩ := hS.ty _ _ hs
      obtain ⟨_, dd, hdd, _, hk⟩ := hS.ty _ _ hd
      obtain rfl := hk
      obtain ⟨r, e, hk⟩ := h
      refine ⟨_, hk, fun a ha w2 _ => ?_⟩
      simp only [execOp, ha.eval hv, Sem.run_bind, convert, run_underlying hds, run_underlying hdd, Result.andThen_ok, Conv.intToInt, Sem.run_pure, e]
    · obtain ⟨u, hu, hk⟩ := h
      exact ⟨u, hk, fun a ha w2 hb => by simp only [execOp, ha.eval hv]; rw [Sem.run_bind, hu w2 (hb.resolve_left (by simp [isN]))]; rfl⟩
  case field T x f =>
    replace h := with1_elim h
    obtain ⟨v, hv, h⟩ := h
    obtain ⟨F, fd, hu, hf, h, hn⟩ := fieldE_elim hS h
    split at h
    · rename_i cs
      obtain ⟨v', hk, hr⟩ := partE_run h rfl rfl hn
      refine ⟨v', hk, fun a ha w2 _ => ?_⟩
      simp only [execOp, ha.eval hv, Sem.run_bind, Instr.field, run_underlying hu, Result.andThen_ok, hf, asAgg, Sem.run_pure, hr w2]
    · exact h.elim
  case index T x i =>
    replace h := with1_elim h
    obtain ⟨vx, hx, h⟩ := h
    replace h := with1_elim h
    obtain ⟨vi, hi, h⟩ := h
    split at h
    · rename_i n e esz eagg _ _ _ _ cs ht
      obtain ⟨_, d, hd, _, hk⟩ := hS.ty _ _ ht
      obtain ⟨rfl, he, hag, hn⟩ := hk
      obtain ⟨k, j, rfl, hj, hg⟩ := idx_elim h
      obtain ⟨v', hk, hr⟩ := partE_run hg hag he hn
      refine ⟨v', hk, fun a ha w2 _ => ?_⟩
      have h1 : (0 : Int) ≤ (j : Int) ∧ (j : Int) < (n : Int) := ⟨by omega, by omega⟩
      simp only [execOp, ha.eval hx, ha.eval hi, Sem.run_bind, Instr.index, asIntOf, Sem.run_pure, run_underlying hd, Result.andThen_ok, h1, and_self, if_true, size_run hn he, Int.toNat_natCast, hr w2]
    · rename_i s ht
      obtain ⟨_, d, hd, _, hk⟩ := hS.ty _ _ ht
      obtain rfl := hk
      obtain ⟨k, j, rfl, hj, u, hu, hg⟩ := idx_elim h
      refine ⟨_, hg, fun a ha w2 _ => ?_⟩
      have hu' : s[j]? = some u := by
        have h2 : s.data[j]? = some u := by simpa using hu
        obtain ⟨hlt, e⟩ := Array.getElem?_eq_some_iff.1 h2
        rw [getElem?_pos s j hj]
        exact congrArg some e
      simp [execOp, ha.eval hx, ha.eval hi, Instr.index, asIntOf, run_underlying hd, hu']
    · exact h.elim
  case fieldAddr T x f =>
    replace h := with1_elim h
    obtain ⟨v, hv, h⟩ := h
    obtain ⟨F, fd, hu, hf, h, hn⟩ := fieldE_elim hS h
    split at h
    · exact h.elim
    · rename_i hz
      have hz' : S.P.cellsOf fd.type ≠ 0 := fun e => by rw [e] at hz; simp at hz
      split at h
      · rename_i b o
        refine ⟨_, h, fun a ha w2 _ => ?_⟩
        simp only [execOp, ha.eval hv, Sem.run_bind, Instr.fieldAt, run_underlying hu, Result.andThen_ok, hf, Sem.run_pure, Instr.sureAddr, fieldPlace, size_run hn rfl w2, hz', if_false, addr_add]
      · exact h.elim
  case indexAddr T x i =>
    replace h := with1_elim h
    obtain ⟨vx, hx, h⟩ := h
    replace h := with1_elim h
    obtain ⟨vi, hi, h⟩ := h
    obtain ⟨v, hk, hr⟩ := indexAddrE_run hS h
    exact ⟨v, hk, fun a ha w2 _ => by simp only [execOp, ha.eval hx, ha.eval hi]; rw [Sem.run_bind, hr w2]; rfl⟩
  case slice T x lo hi mx =>
    replace h := with1_elim h
    obtain ⟨vx, hx, h⟩ := h
    have oe : ∀ {o : Option Operand} {f : Option Value → Prop}, withO E o f → ∃ ov, f ov ∧ ∀ a, Agrees S a E → o.map a.eval = ov := by
      intro o f h
      cases o with
      | none => exact ⟨none, h, fun _ _ => rfl⟩
      | some x => obtain ⟨v, hv, hf⟩ := with1_elim h; exact ⟨some v, hf, fun a ha => by simp [ha.eval hv]⟩
    obtain ⟨l, h, hl⟩ := oe h
    obtain ⟨hh, h, hhh⟩ := oe h
    split at h
    · obtain ⟨v, hk, hr⟩ := sliceE_run hS h
      exact ⟨v, hk, fun a ha w2 _ => by simp only [execOp, ha.eval hx, hl a ha, hhh a ha, Option.map_none]; rw [Sem.run_bind, hr w2]; rfl⟩
    · exact h.elim
  case lookup T x i ok =>
    replace h := with1_elim h
    obtain ⟨vx, hx, h⟩ := h
    replace h := with1_elim h
    obtain ⟨vi, hi, u, hu, hk⟩ := h
    exact ⟨u, hk, fun a ha w2 hb => by simp only [execOp, ha.eval hx, ha.eval hi]; rw [Sem.run_bind, hu w2 (hb.resolve_left (by simp [isN]))]; rfl⟩
  case build T ps =>
    obtain ⟨vs, h, hvs⟩ := withL_elim (S := S) h
    have e : ∀ a, Agrees S a E → (ps.map fun (i, x) => (i, a.eval x)).toList = zipN ps.toList vs := fun a ha => by
      rw [← hvs a ha]
      simp only [Array.toList_map, List.map_map]
      generalize ps.toList = l
      induction l with
      | nil => rfl
      | cons p r ih => obtain ⟨i, x⟩ := p; simp only [List.map_cons, Function.comp_apply, zipN, ih]
    unfold buildE at h
    split at h
    · rename_i fs _ _ _ z ht
      obtain ⟨⟨inf, hi, _, _, hzz⟩, d, hd, _, hk⟩ := hS.ty _ _ ht
      obtain ⟨F, rfl, rfl, hkn⟩ := hk
      obtain ⟨zv, hzv, hzc⟩ := hzz z rfl
      obtain ⟨cells, hf, hk⟩ := h
      refine ⟨_, hk, fun a ha w2 _ => ?_⟩
      have hzr : (zeroValue T).run S.P w2 = .ok zv w2 := by simp [zeroValue, typeInfo, hi, hzv]
      have hpl : (F.mapM fun f => do pure (f.offset, ← sizeOf f.type) : Sem (Array (Nat × Nat))).run S.P w2 = .ok (F.map fun f => (f.offset, S.P.cellsOf f.type)) w2 := by
        rw [Array.mapM_eq_mapM_toList, Sem.run_map]
        have key : ∀ l : List Field, (∀ f ∈ l, Known S.P f.type) → (l.mapM fun f => do pure (f.offset, ← sizeOf f.type) : Sem (List (Nat × Nat))).run S.P w2 = .ok (l.map fun f => (f.offset, S.P.cellsOf f.type)) w2 := by
          intro l
          induction l with
          | nil => intro _; rfl
          | cons f r ih =>
            intro hl
            simp only [List.mapM_cons, Sem.run_bind, size_run (hl f List.mem_cons_self) rfl w2, Result.andThen_ok, Sem.run_pure, ih (fun g hg => hl g (List.mem_cons_of_mem _ hg)), List.map_cons]
        rw [key F.toList hkn]
        simp only [Result.andThen_ok]
        congr 1
        rw [← Array.toList_inj]; simp
      have hfl := fillL_eq _ _ _ hf
      have hplace : (fun i => (F.map fun f => (f.offset, S.P.cellsOf f.type))[i]?) = placeS (F.toList.map fun f => (f.offset, S.P.cellsOf f.type, ((S.P.underlying f.type).map aggOf).getD false)) := by
        funext i
        simp only [placeS, List.getElem?_map, Array.getElem?_map, Array.getElem?_toList]
        cases F[i]? <;> rfl
      simp only [execOp, Sem.run_bind, Instr.build, hzr, Result.andThen_ok, run_underlying hd, hpl]
      rw [hplace, e a ha]
      have hz2 : zv.cells = z.toArray := by rw [← hzc]
      rw [hz2, hfl]
      rfl
    · rename_i n e0 esz eagg _ _ _ z ht
      obtain ⟨⟨inf, hi, _, _, hzz⟩, d, hd, _, hk⟩ := hS.ty _ _ ht
      obtain ⟨rfl, he, _, hkn⟩ := hk
      obtain ⟨zv, hzv, hzc⟩ := hzz z rfl
      obtain ⟨cells, hf, hk⟩ := h
      refine ⟨_, hk, fun a ha w2 _ => ?_⟩
      have hzr : (zeroValue T).run S.P w2 = .ok zv w2 := by simp [zeroValue, typeInfo, hi, hzv]
      have hfl := fillL_eq _ _ _ hf
      simp only [execOp, Sem.run_bind, Instr.build, hzr, Result.andThen_ok, run_underlying hd, size_run hkn he w2]
      rw [e a ha]
      have hz2 : zv.cells = z.toArray := by rw [← hzc]
      rw [hz2, hfl]
      rfl
    · exact h.elim
  case extract t i =>
    replace h := with1_elim h
    obtain ⟨v, hv, h⟩ := h
    split at h
    · rename_i vs
      split at h
      · rename_i u hu
        refine ⟨_, h, fun a ha w2 _ => ?_⟩
        have hu' : vs[i]? = some u := by simpa using hu
        simp [execOp, ha.eval hv, Instr.extract, hu']
      · exact h.elim
    · exact h.elim
  case makeFunc fn first captured =>
    obtain ⟨fs, h, hf⟩ := withL_elim (S := S) h
    obtain ⟨cs, h, hc⟩ := withL_elim (S := S) h
    refine ⟨_, h, fun a ha w2 _ => ?_⟩
    have e1 : first.map a.eval = fs.toArray := by rw [← hf a ha, ← Array.toList_map]
    have e2 : captured.map a.eval = cs.toArray := by rw [← hc a ha, ← Array.toList_map]
    simp [execOp, Instr.makeFunc, e1, e2]
  case nilCheck x =>
    replace h := with1_elim h
    obtain ⟨v, hv, h⟩ := h
    split at h
    · exact ⟨_, h, fun a ha w2 _ => by simp [execOp, ha.eval hv]⟩
    · exact ⟨_, h, fun a ha w2 _ => by simp [execOp, ha.eval hv]⟩
    · exact h.elim
  case load T x =>
    replace h := with1_elim h
    obtain ⟨v, hv, h⟩ := h
    split at h
    · split at h
      · rename_i sz _ _ ht
        obtain ⟨vs, hl, hc, _, hk⟩ := h
        refine ⟨_, hk, fun a ha w2 hb => ?_⟩
        replace hb := hb.resolve_left (by simp [isN])
        simp only [execOp, ha.eval hv, Sem.run_bind, Instr.loadAt, Instr.sureAddr, Sem.run_pure, Result.andThen_ok, loadVar_agg (hS.ty _ _ ht) rfl hl (cells_below hb hc)]
      · rename_i _ _ _ _ ht
        obtain ⟨u, hc, hk⟩ := h
        refine ⟨_, hk, fun a ha w2 hb => ?_⟩
        replace hb := hb.resolve_left (by simp [isN])
        simp only [execOp, ha.eval hv, Sem.run_bind, Instr.loadAt, Instr.sureAddr, Sem.run_pure, Result.andThen_ok, loadVar_one (hS.ty _ _ ht) rfl (below_cell hb hc)]
      · exact h.elim
    · exact h.elim
  case call c =>
    obtain ⟨callee, args, argTypes⟩ := c
    split at h
    · rename_i hc
      dsimp only at hc
      subst hc
      split at h
      · rename_i x T hx hT
        have ex : args = #[x] := by rw [← Array.toList_inj]; simpa using hx
        have eT : argTypes = #[T] := by rw [← Array.toList_inj]; simpa using hT
        subst ex eT
        replace h := with1_elim h
        obtain ⟨v, hv, h⟩ := h
        split at h
        · rename_i e esz _ _ _ _ a n c ht
          obtain ⟨_, d, hd, _, hk⟩ := hS.ty _ _ ht
          obtain ⟨rfl, _⟩ := hk
          exact ⟨_, h, fun a ha w2 _ => by simp [execOp, resolve, invoke, builtin, Builtin.len_, ha.eval hv, run_underlying hd, goInt]⟩
        · rename_i _ _ _ _ s ht
          obtain ⟨_, d, hd, _, hk⟩ := hS.ty _ _ ht
          obtain rfl := hk
          exact ⟨_, h, fun a ha w2 _ => by simp [execOp, resolve, invoke, builtin, Builtin.len_, ha.eval hv, run_underlying hd, goInt]⟩
        · rename_i n e esz eagg _ _ _ _ ht
          obtain ⟨_, d, hd, _, hk⟩ := hS.ty _ _ ht
          obtain ⟨rfl, _⟩ := hk
          refine ⟨_, h, fun a ha w2 _ => ?_⟩
          simp [execOp, resolve, invoke, builtin, Builtin.len_, ha.eval hv, run_underlying hd, goInt]
        · exact h.elim
      · exact h.elim
    · exact h.elim

end Go.Vc
