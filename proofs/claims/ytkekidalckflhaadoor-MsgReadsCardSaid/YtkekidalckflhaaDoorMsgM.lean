/- Messages as data. -/
import Derived.Test.YtkekidalckflhaaDoorVcH
namespace Go.Sei
open Go.Vc

structure Msg where
  kind : UInt8
  from_ : UInt8
  to : UInt8
  line : UInt8
  asker : UInt8
  acks : UInt8
  alone : Bool
  d0 : UInt8
  d1 : UInt8
  d2 : UInt8
  d3 : UInt8
  deriving DecidableEq

def Msg.enc (m : Msg) : List Value := [u8 m.kind, u8 m.from_, u8 m.to, u8 m.line, u8 m.asker, u8 m.acks, .bool m.alone, u8 m.d0, u8 m.d1, u8 m.d2, u8 m.d3]
def Msg.val (m : Msg) : Value := .agg m.enc.toArray
def Msg.E : Enc Msg := ⟨Msg.enc, 11, fun _ => rfl, by decide, fun a u hu => by
  simp only [Msg.enc, List.mem_cons, List.not_mem_nil, or_false] at hu
  rcases hu with rfl | rfl | rfl | rfl | rfl | rfl | rfl | rfl | rfl | rfl | rfl <;> rfl⟩

def intE : Enc Int := ⟨fun n => [.int .i64 n], 1, fun _ => rfl, by decide, fun a u hu => by
  simp only [List.mem_cons, List.not_mem_nil, or_false] at hu; subst hu; rfl⟩

/-- The class of a kind. -/
def classes : List UInt8 := [0, 1, 1, 1, 3, 3, 2, 2, 2, 2, 3, 3, 3]
def classOf (k : UInt8) : UInt8 := classes.getD k.toNat 0

def knownB (m : UInt8) : Bool := decide (1 ≤ (m.toNat : Int)) && decide ((m.toNat : Int) ≤ 3)

/-- What the messages of a queue have in common. -/
def queue (m : Msg) (mode : UInt8) : UInt8 × UInt8 × UInt8 := (m.from_, m.to, if mode = 3 then classOf m.kind else 0)
def qcells (q : UInt8 × UInt8 × UInt8) : List Value := [u8 q.1, u8 q.2.1, u8 q.2.2]

/-- The table of classes lies in its variable. -/
def Glob (w : World) : Prop := Cells w ⟨0, 0, none⟩ (classes.map u8)
theorem Glob.below {w w2 : World} (h : Glob w) (hb : Go.RowKit.Below w.heap.size w w2) : Glob w2 := cells_below hb h
end Go.Sei
