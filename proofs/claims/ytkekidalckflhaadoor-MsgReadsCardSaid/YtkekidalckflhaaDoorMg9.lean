/- Law17: awake. -/
import Derived.Test.YtkekidalckflhaaDoorMg8
import Derived.Test.YtkekidalckflhaaDoorVcJ
import Derived.Laws.BytesArg
namespace Go.Proofs.YtkekidalckflhaaDoor
open Go.Vc Go.RowKit Go.Sei

theorem eql_msg (x y : Operand) (m n : Msg) (w : World) : (do eqGuard .eql 30 x y m.val n.val; binOp .eql 30 m.val n.val).run Tryd.prog w = .ok (.bool (decide (m = n))) w := by
  have h : (Op.equal 30 m.val n.val).run Tryd.prog w = .ok (decide (m = n)) w := eq_msg 9997 m n w
  have hg : Tryd.prog.eqGuardType Tryd.prog.depth 30 = false := by kernel_rfl
  have h1 : (eqGuard .eql 30 x y m.val n.val).run Tryd.prog w = .ok () w := by
    simp only [eqGuard, Msg.val, Bool.not_true, Bool.false_eq_true, if_false, Sem.run_bind, run_program, Result.andThen_ok, hg, Bool.not_false, if_true, Sem.run_pure]
  rw [Sem.run_bind, h1]
  rw [Msg.val, Msg.val] at h
  simp only [Result.andThen_ok, binOp, Msg.val, Sem.run_bind, h, Sem.run_pure]
theorem strOfNums_u8 (l : List UInt8) : strOfNums (l.map fun b => (b.toNat : Int)) = bs l := by
  unfold strOfNums bs
  congr 2
  rw [List.map_map]
  conv => rhs; rw [← List.map_id l]
  refine List.map_congr_left fun b _ => ?_
  simp
theorem conv_str {w : World} {g c n : Nat} {l : List UInt8} {t : TypeId} (h : w.heap[g]? = some (.cells (l.map u8).toArray t (0, 0))) (hn : l.length = n) (w2 : World) (hb : Below w.heap.size w w2) :
    (convert 22 9 (.slice (some ⟨g, 0, none⟩) n c)).run Tryd.prog w2 = .ok (strV l) w2 := by
  have h2 := block_below hb h
  have := run_convert_bytes_arg (P := Tryd.prog) w2 22 5 Tryd.underlying22 Tryd.underlying5 g 0 n c (l.map fun b => (b.toNat : Int)) (by simpa using hn) (fun i hi => by
    have hi' : i < l.length := by omega
    have := cells_at (cells_block h2) (i := i) (v := u8 l[i]) (by simp [hi'])
    rw [this]; simp [u8, hi']) 9 Tryd.underlying9
  rw [this, strOfNums_u8]; rfl

theorem awake_c (w : World) (hg : GlobM w) : Calls Tryd.prog 5 #[] w fun e w' => e = .returned (.bool true) ∧ Below w.heap.size w w' := by
  refine calls_of_M (S := sg 33) (sgOk _) (args := []) (.s .p (.c .p (.c .p .p))) Tryd.func5 rfl rfl (Nat.le_of_ble_eq_true rfl) rfl ?_
  refine ⟨Nat, fun g => ⟨[(1, .pointer (some ⟨g, 0, none⟩))], []⟩, fun g V => V.heap[g]? = some (.cells awM.val.cells 30 (0, 0)) ∧ Below w.heap.size w V, ?_, ?_⟩
  · refine ⟨dcells 7 0 0 0, rfl, ?_⟩
    refine ⟨awM.enc, rfl, ?_⟩
    refine store_new (X := w) (v := awM.val) (ttOk.get 30 _ rfl) (by rfl) rfl (by rfl) fun Y hbY fY sY => ?_
    exact ⟨w.heap.size, ⟨.cons rfl .nil, rfl⟩, fY, hbY⟩
  rintro g1 V ⟨f1, hb⟩
  refine ⟨Nat, fun g => ⟨[(1, .pointer (some ⟨g1, 0, none⟩)), (2, .pointer (some ⟨g, 0, none⟩)), (3, .int .i64 0)], []⟩, fun g V => V.heap[g1]? = some (.cells awM.val.cells 30 (0, 0)) ∧ V.heap[g]? = some (.cells awM.val.cells 30 (0, 0)) ∧ Below w.heap.size w V, ?_, ?_⟩
  · refine Calls.mono (parse_aw V (hg.below hb)) ?_
    rintro e X ⟨rfl, hbX⟩
    have hb2 := hb.trans (hbX.mono hb.size)
    refine store_new (X := X) (v := awM.val) (ttOk.get 30 _ rfl) (by rfl) rfl (by rfl) fun Z hbZ fZ sZ => ?_
    exact ⟨X.heap.size, ⟨.cons rfl (.cons rfl (.cons rfl .nil)), rfl⟩, block_below hbZ (block_below hbX f1), fZ, hb2.trans (hbZ.mono hb2.size)⟩
  clear f1 hb V
  rintro g2 V ⟨f1, f2, hb⟩
  refine ⟨awM.enc, rfl, cells_block f1, hlt f1, ?_⟩
  refine Calls.mono (text_aw V (hg.below hb)) ?_
  rintro e V1 ⟨rfl, hb1⟩
  have hw1 := hb.trans (hb1.mono hb.size)
  have g1' := block_below hb1 f1
  have g2' := block_below hb1 f2
  refine ⟨_, fun w => eql_str _ _ awT awT w, ?_⟩
  refine And.intro (fun _ => ?_) (fun h => absurd h (by simp))
  refine ⟨awM.enc, rfl, cells_block g1', hlt g1', ?_⟩
  refine Calls.mono (Bytes_c awM V1) ?_
  rintro e V2 ⟨k, rfl, fk, _, hb2⟩
  have hw2 := hw1.trans (hb2.mono hw1.size)
  have k1 := block_below hb2 g1'
  have k2 := block_below hb2 g2'
  refine ⟨_, fun w2 hb => conv_str (l := codeOf awM) fk rfl w2 hb, ?_⟩
  refine ⟨_, fun w => eql_str _ _ (codeOf awM) [10, 2, 0, 1, 0, 1, 0, 7, 0, 0, 0] w, ?_⟩
  refine And.intro (fun _ => ?_) (fun h => absurd h (by decide))
  refine ⟨awM.enc, rfl, cells_block k2, hlt k2, ?_⟩
  refine ⟨awM.enc, rfl, cells_block k1, hlt k1, ?_⟩
  refine ⟨_, fun w => eql_msg _ _ awM awM w, ?_⟩
  refine And.intro (fun _ => ?_) (fun h => absurd h (by simp))
  refine And.intro (fun _ => ?_) (fun h => absurd h (by decide))
  refine ⟨zeroM.enc, rfl, ?_⟩
  refine Calls.mono (text_zero V2 (hg.below hw2)) ?_
  rintro e V3 ⟨rfl, hb3⟩
  refine ⟨_, fun w => eql_str _ _ awZ awZ w, ?_⟩
  exact And.intro (rb (by simp)) (hw2.trans (hb3.mono hw2.size))
end Go.Proofs.YtkekidalckflhaaDoor
