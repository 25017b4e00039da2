/- Law17: what its functions need of a world; Class, number, kindOf. -/
import Derived.Test.YtkekidalckflhaaDoorMsgM
import Derived.Test.YtkekidalckflhaaDoorSig
import Derived.Test.YtkekidalckflhaaDoorShelf
import Derived.Test.YtkekidalckflhaaDoorCm1
namespace Go.Proofs.YtkekidalckflhaaDoor
open Go.Vc Go.RowKit Go.Sei

/-- A string of these bytes. -/
def bs (l : List UInt8) : ByteArray := ⟨l.toArray⟩
def strV (l : List UInt8) : Value := .string (bs l)
theorem bs_list (l : List UInt8) : (bs l).data.toList = l := rfl
theorem bs_inj {a b : List UInt8} (h : bs a = bs b) : a = b := by
  have := congrArg (fun x : ByteArray => x.data.toList) h
  exact this
def kindNames : List (List UInt8) := [[], [71, 101, 116, 83], [71, 101, 116, 77], [80, 117, 116], [68, 111, 110, 101], [67, 111, 112, 121], [70, 119, 100, 83], [70, 119, 100, 77], [73, 110, 118], [80, 117, 116, 65, 99, 107], [86, 97, 108, 117, 101], [71, 114, 97, 110, 116], [73, 110, 118, 65, 99, 107]]

structure GlobM (w : World) : Prop where
  cls : Cells w ⟨2, 0, none⟩ (classes.map u8)
  nms : Cells w ⟨0, 0, none⟩ (kindNames.map strV)
  lt : 0 < w.heap.size
  pow : Lib.TabIs Tryd.prog w "internal/strconv.uint64pow10" .u64 Lib.pow10Tab
  max : ∃ m, w.cell? ⟨6, 0, none⟩ = some (.int .i64 m)
  syn : ∃ ev, w.cell? ⟨4, 0, none⟩ = some ev ∧ (ev = .nilIface ∨ ∃ te pe, ev = .iface te pe)
  rng : ∃ ev, w.cell? ⟨5, 0, none⟩ = some ev ∧ (ev = .nilIface ∨ ∃ te pe, ev = .iface te pe)

theorem tab_below {w w2 : World} {k : IntKind} {n : String} {zs : List Int} (h : Lib.TabIs Tryd.prog w n k zs) (hb : Below w.heap.size w w2) : Lib.TabIs Tryd.prog w2 n k zs := by
  unfold Lib.TabIs World.var? at *
  rw [Option.bind_eq_some_iff] at h ⊢
  obtain ⟨g, hg, h⟩ := h
  refine ⟨g, hg, ?_⟩
  split at h
  · rename_i cs t hh heq
    have := block_below hb heq
    rw [this]; exact h
  · cases h
theorem GlobM.below {w w2 : World} (h : GlobM w) (hb : Below w.heap.size w w2) : GlobM w2 := by
  obtain ⟨h1, h2, h3, h4, ⟨m, h5⟩, ⟨e1, h6, h6'⟩, ⟨e2, h7, h7'⟩⟩ := h
  exact ⟨cells_below hb h1, cells_below hb h2, Nat.lt_of_lt_of_le h3 hb.size, tab_below h4 hb, ⟨m, below_cell hb h5⟩, ⟨e1, below_cell hb h6, h6'⟩, ⟨e2, below_cell hb h7, h7'⟩⟩

theorem grow_below (w : World) (k : Nat) (os : Array Obj) : Below w.heap.size w (Go.Sort.grow (w.drewN k) os) :=
  ⟨rfl, rfl, rfl, by simp [Go.Sort.grow, World.drewN], fun j hj => by
    show (w.heap ++ os)[j]? = w.heap[j]?
    exact Array.getElem?_append_left hj⟩

theorem Class_c (k : UInt8) (w : World) (hg : GlobM w) : Calls Tryd.prog 18 #[u8 k] w fun e w' => e = .returned (u8 (classOf k)) ∧ w = w' := by
  refine calls_of_E (S := sg 9) (sgOk _) (args := [u8 k]) Tryd.func18 rfl rfl (Nat.le_of_ble_eq_true rfl) rfl ?_
  refine ⟨_, wrap_u8_i64 k, ?_⟩
  refine And.intro (fun h => ?_) (fun h => ?_)
  · have h := of_decide_eq_true h
    refine And.intro ?_ rfl
    have : classOf k = 0 := by
      unfold classOf
      rw [List.getD_eq_getElem?_getD, List.getElem?_eq_none (by simp only [classes, List.length_cons, List.length_nil]; omega)]; rfl
    rw [this]; rfl
  · have h := of_decide_eq_false h
    refine ⟨k.toNat, rfl, by omega, ?_⟩
    have hk : (classes.map u8)[k.toNat]? = some (u8 (classOf k)) := by
      have hl : k.toNat < classes.length := by simp only [classes, List.length_cons, List.length_nil]; omega
      rw [List.getElem?_map, List.getElem?_eq_getElem hl]
      simp only [classOf, List.getD_eq_getElem?_getD, List.getElem?_eq_getElem hl, Option.map_some, Option.getD_some]
    have := cells_at hg.cls hk
    refine ⟨_, by rw [Nat.mul_one]; exact this, ?_⟩
    exact And.intro rfl rfl

/-- A number's digits. -/
def dig (n : UInt8) : List UInt8 := Lib.itoa (n.toNat : Int)
theorem number_c (n : UInt8) (w : World) (hg : GlobM w) : Calls Tryd.prog 26 #[u8 n] w fun e w' => e = .returned (strV (dig n)) ∧ Below w.heap.size w w' := by
  refine calls_of_E (S := sg 6) (sgOk _) (args := [u8 n]) Tryd.func26 rfl rfl (Nat.le_of_ble_eq_true rfl) rfl ?_
  refine ⟨(n.toNat : Int), wrap_u8_i64 n, ?_⟩
  refine Calls.mono (Tryd.strconv_Itoa (n.toNat : Int) (by omega) (by have := u8_lt n; omega) w hg.pow) ?_
  rintro e w' ⟨rfl, k, os, rfl⟩
  exact And.intro rfl (grow_below w k os)
end Go.Proofs.YtkekidalckflhaaDoor
