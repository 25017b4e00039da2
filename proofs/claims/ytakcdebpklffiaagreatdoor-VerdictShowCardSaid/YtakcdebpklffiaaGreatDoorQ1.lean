/- Contracts of functions, and plain facts, for the law that the last text of this claim proves. -/
import Derived.CallsIn
import Derived.OrdersIn
import Derived.Below
import Derived.RangeFuncLeaves
import Derived.Laws.StructEq
import Derived.Laws.Rows
import Derived.RangeFuncSeq
import Derived.Deep.LoopGhost
import Derived.Laws.AppendOwn
import Derived.Maps.AppendAt
import Derived.Laws.AppendOwnNone
import Derived.Lib.AppendZerosOnto
import Derived.Laws.OwnMore
import Derived.KernelRfl
import Derived.Test.YtakcdebpklffiaaGreatDoorProg
import Derived.Lib.ItoaNum
import Derived.Lib.Join
import Derived.Lib.ParseIntB
import Derived.Lib.Split
import GoSem.Instr.MapEntry
import Derived.ChangeKeysEq
import Derived.Laws.BytesArg
import Derived.Laws.Strings
set_option linter.unusedSimpArgs false
set_option linter.unusedVariables false
namespace Go
abbrev Ja:=@List.set_eq_take_append_cons_drop
abbrev Jb:=@Array.all_eq_true_iff_forall_mem
abbrev Jc:=@List.drop_append_of_le_length
abbrev Jd:=@List.eq_nil_of_length_eq_zero
abbrev Je:=@List.take_append_of_le_length
abbrev Jf:=@Array.getElem?_setIfInBounds
abbrev Jg:=@Array.getD_eq_getD_getElem?
abbrev Jh:=@List.drop_length_add_append
abbrev Ji:=@Array.getElem?_eq_some_iff
abbrev Jj:=@List.getElem?_append_right
abbrev Jk:=@Array.getElem?_eq_getElem
abbrev Jl:=@Classical.byContradiction
abbrev Jm:=@List.drop_eq_getElem_cons
abbrev Jn:=@List.getElem?_append_left
abbrev Jo:=@List.getElem?_eq_some_iff
abbrev Jp:=@List.isEmpty_eq_false_iff
abbrev Jq:=@List.eq_of_mem_replicate
abbrev Jr:=@List.getElem?_cons_succ
abbrev Js:=@List.head_eq_of_cons_eq
abbrev Jt:=@Nat.add_sub_cancel_left
abbrev Ju:=@Go.World.block_lt_of_cell?
abbrev Jv:=@List.drop_eq_nil_of_le
abbrev Jw:=@List.drop_of_length_le
abbrev Jy:=@List.filter_eq_nil_iff
abbrev Jz:=@List.getElem?_set_self
abbrev JA:=@List.getElem_cons_drop
abbrev JB:=@List.take_of_length_le
abbrev JC:=@Nat.testBit_lt_two_pow
abbrev JD:=@Array.mem_of_getElem?
abbrev JE:=@List.getElem?_eq_none
abbrev JF:=@List.getElem?_reverse
abbrev JH:=@List.length_filter_le
abbrev JI:=@List.length_replicate
abbrev JJ:=@List.mem_append_right
abbrev JK:=@List.set_append_right
abbrev JL:=@List.take_append_drop
abbrev JM:=@Nat.eq_of_beq_eq_true
abbrev JN:=@Nat.le_of_ble_eq_true
abbrev JO:=@Array.toList_extract
abbrev JP:=@List.contains_eq_mem
abbrev JQ:=@List.getElem?_set_ne
abbrev JR:=@List.mem_cons_of_mem
abbrev JS:=@List.mem_of_getElem?
abbrev JT:=@List.mem_of_mem_take
abbrev JU:=@Nat.div_lt_of_lt_mul
abbrev JV:=@Nat.eq_of_testBit_eq
abbrev JW:=@Nat.mul_le_mul_right
abbrev JY:=@Nat.pow_le_pow_right
abbrev JZ:=@Nat.pow_lt_pow_right
abbrev Ka:=@Function.comp_apply
abbrev Kb:=@List.flatMap_append
abbrev Kc:=@List.getElem?_range
abbrev Kd:=@List.getElem_of_mem
abbrev Ke:=@List.length_reverse
abbrev Kf:=@List.map_congr_left
abbrev Kg:=@List.mem_map_of_mem
abbrev Kh:=@List.reverse_append
abbrev Ki:=@List.takeWhile_cons
abbrev Kj:=@Nat.testBit_two_pow
abbrev Kk:=@Go.run_enterLoop_outer
abbrev Kl:=@Array.foldl_toList
abbrev Km:=@BitVec.toNat_ofInt
abbrev Kn:=@Bool.false_eq_true
abbrev Ko:=@Bool.false_ne_true
abbrev Kq:=@List.filter_append
abbrev Kr:=@List.getElem?_drop
abbrev Ks:=@List.getElem?_take
abbrev Kt:=@List.getElem_range
abbrev Ku:=@List.mem_cons_self
abbrev Kv:=@List.mem_singleton
abbrev Kw:=@List.ne_nil_of_mem
abbrev Kx:=@List.set_cons_succ
abbrev Ky:=@Nat.and_one_is_mod
abbrev Kz:=@Nat.lt_of_le_of_lt
abbrev KA:=@Nat.pos_of_ne_zero
abbrev KB:=@UInt8.toNat_ofNat'
abbrev KC:=@Bool.not_eq_true'
abbrev KD:=@Go.DataW.trod_struct
abbrev KE:=@Int.toNat_natCast
abbrev KF:=@List.all_eq_false
abbrev KG:=@List.any_eq_false
abbrev KH:=@List.append_assoc
abbrev KI:=@List.ext_getElem?
abbrev KJ:=@List.filter_congr
abbrev KK:=@List.flatMap_cons
abbrev KL:=@List.foldl_append
abbrev KM:=@List.getElem?_map
abbrev KN:=@List.length_range
abbrev KO:=@List.reverse_cons
abbrev KQ:=@List.size_toArray
abbrev KR:=@Nat.or_lt_two_pow
abbrev KS:=@Option.some.injEq
abbrev KT:=@Result.andThen_ok
abbrev KU:=@not_true_eq_false
abbrev KV:=@Go.run_storeCells_at
abbrev KW:=@Array.toList_inj
abbrev KX:=@Array.toList_map
abbrev KY:=@BitVec.toNat_and
abbrev KZ:=@Bool.not_eq_true
abbrev Qa:=@List.all_eq_true
abbrev Qb:=@List.any_eq_true
abbrev Qc:=@List.cons_append
abbrev Qd:=@List.drop_length
abbrev Qe:=@List.filter_cons
abbrev Qf:=@List.flatMap_map
abbrev Qg:=@List.flatMap_nil
abbrev Qh:=@List.getElem_map
abbrev Qi:=@List.isEmpty_iff
abbrev Qj:=@List.length_cons
abbrev Qk:=@List.length_drop
abbrev Ql:=@List.length_take
abbrev Qm:=@List.not_mem_nil
abbrev Qn:=@List.take_length
abbrev Qo:=@Nat.and_le_right
abbrev Qp:=@Nat.le_add_right
abbrev Qq:=@Nat.lt_of_not_le
abbrev Qr:=@Nat.lt_succ_self
abbrev Qs:=@Nat.min_le_right
abbrev Qt:=@Nat.mod_eq_of_lt
abbrev Qu:=@Nat.zero_testBit
abbrev Qv:=@Option.getD_some
abbrev Qw:=@decide_eq_decide
abbrev Qx:=@Bool.or_eq_true
abbrev Qy:=@Int.natCast_mul
abbrev Qz:=@List.all_append
abbrev QA:=@List.append_nil
abbrev QB:=@List.cons.injEq
abbrev QC:=@List.foldl_cons
abbrev QD:=@List.length_map
abbrev QE:=@List.length_nil
abbrev QF:=@List.length_set
abbrev QG:=@List.map_append
abbrev QH:=@List.mem_append
abbrev QI:=@List.mem_filter
abbrev QJ:=@List.nil_append
abbrev QK:=@List.nodup_cons
abbrev QL:=@List.range_succ
abbrev QM:=@List.take_left'
abbrev QN:=@Nat.and_le_left
abbrev QO:=@Nat.div_add_mod
abbrev QQ:=@Nat.min_eq_left
abbrev QR:=@Nat.testBit_and
abbrev QS:=@Nat.two_pow_pos
abbrev QT:=@Option.map_none
abbrev QU:=@Option.map_some
abbrev QV:=@Option.some.inj
abbrev QW:=@UInt8.toNat_inj
abbrev QX:=@decide_eq_false
abbrev QY:=@Bool.and_false
abbrev QZ:=@Bool.false_and
abbrev Ua:=@List.drop_drop
abbrev Ub:=@List.drop_left
abbrev Uc:=@List.drop_zero
abbrev Ud:=@List.mapM_cons
abbrev Ue:=@List.mem_range
abbrev Uf:=@List.take_zero
abbrev Ug:=@Nat.mul_le_mul
abbrev Uh:=@decide_eq_true
abbrev Ui:=@Go.run_underlying
abbrev Uj:=@Go.Addr.mk.injEq
abbrev Uk:=@Bool.false_or
abbrev Ul:=@Bool.not_true
abbrev Um:=@Bool.or_false
abbrev Un:=@Bool.true_and
abbrev Uo:=@Int.ofNat.inj
abbrev Up:=@List.all_cons
abbrev Uq:=@List.map_cons
abbrev Ur:=@List.mem_cons
abbrev Us:=@Nat.add_assoc
abbrev Ut:=@Nat.mul_assoc
abbrev Uu:=@Prod.mk.injEq
abbrev Uv:=@Bool.not_not
abbrev Uw:=@List.map_map
abbrev Ux:=@List.map_nil
abbrev Uy:=@List.map_set
abbrev Uz:=@List.mem_map
abbrev UA:=@Nat.add_comm
abbrev UB:=@Nat.add_zero
abbrev UC:=@Nat.le_trans
abbrev UD:=@Nat.mul_comm
abbrev UE:=@Nat.sub_self
abbrev UF:=@Nat.sub_zero
abbrev UG:=@Nat.succ_mul
abbrev UH:=@Nat.zero_add
abbrev UI:=@Nat.zero_mul
abbrev UJ:=@Sem.run_bind
abbrev UK:=@Sem.run_pure
abbrev UL:=@decide_false
abbrev UM:=@Nat.add_mul
abbrev UN:=@Nat.le_refl
abbrev UO:=@Nat.mul_one
abbrev UP:=@Nat.zero_le
abbrev UQ:=@Go.run_endLoop
abbrev UR:=@Go.RowKit.Below.refl
abbrev US:=@Nat.ble_eq
abbrev UT:=@Nat.blt_eq
abbrev UU:=@Nat.mod_lt
abbrev UV:=@And.intro
abbrev UW:=@Go.wpIn_mono
abbrev UX:=@and_true
abbrev UY:=@congrArg
abbrev UZ:=@if_false
abbrev Ga:=@or_false
abbrev Gb:=@if_true
abbrev Gc:=@if_neg
abbrev Gd:=@if_pos
abbrev Ge:=@absurd
abbrev Wd:=World
abbrev OA:=Option Addr
noncomputable abbrev PG:=Go.Proofs.Tryz.prog
end Go
namespace Go
open Go.RowKit
abbrev At0 (b:Nat):Value := .pointer (some ⟨b,0,none⟩)
theorem gE{α:Type _}{l:List α}{i:Nat}(h:i<l.length):l[i]?=some l[i]:=List.getElem?_eq_getElem h
theorem bAT(a b:Bool):((a&&b)=true)=(a=true/\b=true):=Bool.and_eq_true a b
theorem dE{p:Prop}[Decidable p]:(decide p=true)=p:=decide_eq_true_eq
theorem cmo{P:Program}{f:FuncId}{args:Array Value}{w:Wd}{R R':Ending->Wd->Prop}(h:Calls P f args w R)(k:∀e w',R e w'->R' e w'):Calls P f args w R':=h.mono k
theorem nL{a b c:Nat}(h:a<b)(k:b<=c):a<c:=Nat.lt_of_lt_of_le h k
theorem wz(w:Wd)(o:Obj):(w.alloc o).heap.size=w.heap.size+1:=World.size_alloc w o
theorem lap{α:Type _}{a b:List α}:(a++b).length=a.length+b.length:=List.length_append
theorem tsg{α:Type _}{i:Nat}{l:List α}(h:i<l.length):l.take (i+1)=l.take i++[l[i]]:=List.take_succ_eq_append_getElem h
theorem gDe{α:Type _}{l:List α}{i:Nat}{a:α}:l.getD i a=(l[i]?).getD a:=List.getD_eq_getElem?_getD
theorem gM{α:Type _}{l:List α}{i:Nat}(h:i<l.length):l[i]∈l:=List.getElem_mem h
theorem zdc{n k:Nat}(h:k<n):n-(k+1)<n-k:=by omega
abbrev Bw (w X:Wd):Prop:=Below w.heap.size w X
theorem zst{w X Y:Wd}(a:Below w.heap.size w X)(b:Below X.heap.size X Y):Below w.heap.size w Y:=a.trans (b.mono a.size)
theorem zba(w:Wd)(o:Obj):Below w.heap.size w (w.alloc o):=(UR _ w).alloc (UN _) _
theorem dT{p:Prop}[Decidable p](h:decide p=true):p:=of_decide_eq_true h
theorem dF{p:Prop}[Decidable p](h:decide p=false):¬p:=of_decide_eq_false h
end Go
namespace Go.Vc
open Go.RowKit
def FR (r:Option Nat):Fence:={ fn:=fun _=>True,depth:=none,alive:=false,round:=r }
abbrev VEnv:=List (Nat×Value)
def VEnv.find:VEnv->Nat->Option Value
 | [],_=>none
 | (k,v)::r,t=>match Nat.beq k t with
  | true=>some v
  | false=>VEnv.find r t
structure Env where
 vs:VEnv
 ds:List Deferred:=[]
def Env.find (E:Env) (t:Nat):Option Value:=VEnv.find E.vs t
inductive TK where
 | other | bool | string | int (k:IntKind) | slice (e esz:Nat) | array (n e esz:Nat) (eagg:Bool) | struct (fs:List (Nat×Nat×Bool)) | map (k v:Nat) | ptr (e:Nat)
structure TI where
 kind:TK
 size:Nat
 agg:Bool
 bytes:Nat
 zero:Option (List Value)
abbrev TT:=List (Nat×TI)
def TT.get:TT->Nat->Option TI
 | [],_=>none
 | (k,v)::r,t=>match Nat.beq k t with
  | true=>some v
  | false=>TT.get r t
def zem (d:TypeDesc):Bool:=match d with | .struct _ | .array _ _=>true | _=>false
def zfd (P:Program) (t:Nat):Prop:=(∃i,P.info? t=some i)/\∃d,P.underlying t=some d
structure TIok (P:Program) (t:Nat) (i:TI):Prop where
 info:∃inf,P.info? t=some inf/\inf.size=i.size/\inf.bytes=i.bytes/\∀z,i.zero=some z->∃v,inf.zero=some v/\v.cells.toList=z
 desc:∃d,P.underlying t=some d/\zem d=i.agg /\
  match i.kind with
  | .other=>True
  | .bool=>d = .bool
  | .string=>d = .string
  | .int k=>d = .int k
  | .slice e esz=>d = .slice e/\P.cellsOf e=esz/\zfd P e
  | .array n e esz eagg=>d = .array n e/\P.cellsOf e=esz/\((P.underlying e).map zem).getD false=eagg/\zfd P e
  | .struct fs=>∃F:Array Field,d = .struct F/\fs=F.toList.map (fun f=>(f.offset,P.cellsOf f.type,((P.underlying f.type).map zem).getD false))/\∀f∈F.toList,zfd P f.type
  | .map k v=>d = .map k v
  | .ptr e=>d = .pointer e
def zi5 (g:Nat):List Nat->Bool
 | []=>true
 | x::r=>match Nat.beq x g with
  | true=>false
  | false=>zi5 g r
structure Sig where
 P:Program
 τ:TT
 n:Nat
 lo:Nat
 hi:Nat
 r:Option Nat:=none
 no:List Nat:=[]
structure SigOk (S:Sig):Prop where
 ty:∀t i,TT.get S.τ t=some i->TIok S.P t i
 call:∀g,S.lo<=g->g<S.hi->zi5 g S.no=true->∀args w,(callFunc g args).run S.P w = .ok (.enter g args) w
 mixed:S.P.follows .mixedOrders=true
structure Agrees (S:Sig) (a:Act) (E:Env):Prop where
 size:a.tmps.size=S.n
 defers:a.defers=E.ds
 val:∀t v,Env.find E t=some v->a.tmps[t]?=some v
def opd (E:Env):Operand->Option Value
 | .tmp t=>Env.find E t
 | .const v=>some v
 | .global g=>some (.pointer (some ⟨g,0,none⟩))
 | .func f=>some (.func (.func f) #[] #[])
theorem Agrees.eval{S:Sig}{a:Act}{E:Env}(h:Agrees S a E){x:Operand}{v:Value}(hx:opd E x=some v):a.eval x=v:=by
 cases x with
 | tmp t =>
  have:=h.val t v hx;simp[Act.eval,this]
 | const u=>simpa [opd,Act.eval] using hx
 | global g=>simpa [opd,Act.eval] using hx
 | func f=>simpa [opd,Act.eval] using hx
inductive CovL (E:VEnv):VEnv->Prop
 | nil:CovL E []
 | cons {t:Nat} {v:Value} {r:VEnv} (h:VEnv.find E t=some v) (k:CovL E r):CovL E ((t,v)::r)
structure Cov (E E0:Env):Prop where
 c:CovL E.vs E0.vs
 d:E.ds=E0.ds
theorem CovL.find{E E0:VEnv}(h:CovL E E0):∀t v,VEnv.find E0 t=some v->VEnv.find E t=some v:=by
 induction h with
 | nil=>intro t v h;simp [VEnv.find] at h
 | @cons t u r h _ ih =>
  intro b v a;simp only[VEnv.find] at a
  cases hb:Nat.beq t b with
  | true =>
   rw[hb] at a;have:t=b:=JM hb;subst this;simp only[KS] at a;subst a;exact h
  | false=>rw [hb] at a;exact ih b v a
theorem Agrees.cov{S:Sig}{a:Act}{E E0:Env}(h:Agrees S a E)(c:Cov E E0):Agrees S a E0 :=
 ⟨h.size,h.defers.trans c.d,fun t v b=>h.val t v (c.c.find t v b)⟩
def zfe (dst:Option Nat) (v:Value) (E:Env):Env:=match dst with | some d=>⟨(d,v)::E.vs,E.ds⟩ | none=>E
def zlA (n:Nat):Option Nat->Bool
 | none=>true
 | some d=>Nat.blt d n
theorem Agrees.put{S:Sig}{a:Act}{E:Env}(h:Agrees S a E){dst:Option Nat}(hd:zlA S.n dst=true)(v:Value):Agrees S (a.put dst v) (zfe dst v E):=by
 cases dst with
 | none=>exact h
 | some d =>
  have c:d<S.n:=by simpa [zlA,UT] using hd
  refine⟨by simp[Act.put,h.size],h.defers,fun t u b=>?_⟩;simp only[zfe,Env.find,VEnv.find] at b
  cases hb:Nat.beq d t with
  | true =>
   rw[hb] at b;have e:d=t:=JM hb;subst e;simp only[KS] at b;subst b;simp[Act.put,h.size,c]
  | false =>
   rw[hb] at b;have e:d≠t:=fun e=>by subst e;simp at hb
   have:=h.val t u b;simp[Act.put,e,this]
def Ar (k:IntKind) (e:Int) (K:Value->Prop):Prop:=∃r,k.wrap e=r/\K (.int k r)
def zF (w:Wd) (p:Addr) (vs:List Value):Prop:=∀i v,vs[i]?=some v->w.cell? (p.add i)=some v
def SatR {α:Type} (r:Result α) (K:α->Wd->Prop):Prop:=∃v w',r = .ok v w'/\K v w'
theorem SatR.mk{α:Type}{r:Result α}{K:α->Wd->Prop}{v:α}{w':Wd}(h:r = .ok v w')(k:K v w'):SatR r K:=⟨v,w',h,k⟩
def Br (b:Bool) (A B:Prop):Prop:=(b=true->A)/\(b=false->B)
def zrp (P:Program) (d:TypeDesc):TK->Bool
 | .other=>true
 | .bool=>(match d with | .bool=>true | _=>false)
 | .string=>(match d with | .string=>true | _=>false)
 | .int k=>(match d with | .int k'=>decide (k'=k) | _=>false)
 | .slice e esz=>(match d with | .slice e'=>Nat.beq e' e&&Nat.beq (P.cellsOf e) esz&&(P.info? e).isSome&&(P.underlying e).isSome | _=>false)
 | .array n e esz eagg=>(match d with | .array n' e'=>Nat.beq n' n&&Nat.beq e' e&&Nat.beq (P.cellsOf e) esz&&(((P.underlying e).map zem).getD false == eagg)&&(P.info? e).isSome&&(P.underlying e).isSome | _=>false)
 | .struct fs=>(match d with
  | .struct F=>decide (fs=F.toList.map (fun f=>(f.offset,P.cellsOf f.type,((P.underlying f.type).map zem).getD false)))&&F.toList.all fun f=>(P.info? f.type).isSome&&(P.underlying f.type).isSome
  | _=>false)
 | .map k v=>(match d with | .map k' v'=>Nat.beq k' k&&Nat.beq v' v | _=>false)
 | .ptr e=>(match d with | .pointer e'=>Nat.beq e' e | _=>false)
def zoW (P:Program) (t:Nat) (i:TI):Bool :=
 match P.underlying t with
 | some d=>(zem d == i.agg)&&zrp P d i.kind
 | none=>false
theorem qr{P:Program}{t:Nat}(h1:(P.info? t).isSome=true)(h2:(P.underlying t).isSome=true):zfd P t :=
 ⟨Option.isSome_iff_exists.1 h1,Option.isSome_iff_exists.1 h2⟩
theorem ztq{P:Program}{t:Nat}{i:TI}(h1:(P.info? t).map (fun x=>(x.size,x.bytes))=some (i.size,i.bytes))
  (h2:∀z,i.zero=some z->((P.info? t).bind (fun x=>x.zero)).map (fun v=>v.cells.toList)=some z) (h3:zoW P t i=true):TIok P t i:=by
 obtain⟨j,m,l⟩:=Option.map_eq_some_iff.1 h1;simp only[Uu] at l;refine⟨⟨j,m,l.1,l.2,fun z w=>?_⟩,?_⟩
 ·have:=h2 z w;rw[m] at this;obtain⟨v,p,q⟩:=Option.map_eq_some_iff.1 this;exact⟨v,p,q⟩
 ·unfold zoW at h3
  split at h3
  ·rename_i d r;simp only[bAT,beq_iff_eq] at h3;refine⟨d,r,h3.1,?_⟩;have h:=h3.2;generalize i.kind=k at h
   cases k <;> simp only[zrp] at h
   case other=>trivial
   case bool=>split at h <;> simp_all
   case string=>split at h <;> simp_all
   case int k=>split at h <;> simp_all
   case slice e esz =>
    split at h
    ·simp only[bAT] at h;obtain⟨⟨⟨a,b⟩,c⟩,e⟩:=h;exact⟨by rw[JM a],JM b,qr c e⟩
    ·cases h
   case array n e esz eagg =>
    split at h
    ·simp only[bAT,beq_iff_eq] at h;obtain⟨⟨⟨⟨⟨a,b⟩,c⟩,e⟩,f⟩,g⟩:=h;have s:=JM a;have u:=JM b;subst s u;exact⟨rfl,JM c,e,qr f g⟩
    ·cases h
   case struct fs =>
    split at h
    ·rename_i F;simp only[bAT,dE,Qa] at h;exact⟨F,rfl,h.1,fun f o=>qr (h.2 f o).1 (h.2 f o).2⟩
    ·cases h
   case map k v =>
    split at h
    ·simp only[bAT] at h;rw[JM h.1,JM h.2]
    ·cases h
   case ptr e =>
    split at h
    ·rw[JM h]
    ·cases h
  ·cases h3
inductive TTok (P:Program):TT->Prop
 | nil:TTok P []
 | cons {t:Nat} {i:TI} {r:TT} (h:TIok P t i) (k:TTok P r):TTok P ((t,i)::r)
theorem TTok.get{P:Program}:∀{τ:TT},TTok P τ->∀t i,TT.get τ t=some i->TIok P t i
 | [],_,t,i,h=>by simp [TT.get] at h
 | (u,j)::r,.cons hj hr,t,i,h=>by
  simp only[TT.get] at h
  cases hb:Nat.beq u t with
  | true =>
   rw[hb] at h;simp only[KS] at h;have e:=JM hb;subst e h;exact hj
  | false=>rw [hb] at h;exact hr.get t i h
def zo2 (P:Program) (lo hi:Nat) (no:List Nat):Bool :=
 (List.range (hi-lo)).all fun k=>match zi5 (lo+k) no with
  | false=>true
  | true=>match P.funcs[lo+k]? with
   | some fn => fn.name != "runtime.NumGoroutine" && fn.body.isSome
   | none=>false
theorem zsx{P:Program}{lo hi:Nat}{no:List Nat}(h:zo2 P lo hi no=true):∀g,lo<=g->g<hi->zi5 g no=true->∀args w,(callFunc g args).run P w = .ok (.enter g args) w:=by
 intro g e d b args w;simp only[zo2,Qa,Ue] at h;have a:=h (g-lo) (by omega);rw[show lo+(g-lo)=g by omega,b] at a;dsimp only at a
 split at a
 ·rename_i f c;simp only[bAT,bne_iff_ne,ne_eq] at a;simp[callFunc,c,a.1,Option.isSome_iff_ne_none.1 a.2]
 ·cases a
theorem nm{α:Sort _}(a:α):∃x,x=a:=⟨a,rfl⟩
def zsp (E:VEnv):VEnv->List (Option Value)
 | []=>[]
 | (t,_)::r=>VEnv.find E t::zsp E r
def zso:VEnv->List (Option Value)
 | []=>[]
 | (_,v)::r=>some v::zso r
theorem zs8{E:VEnv}:∀{E0:VEnv},zsp E E0=zso E0->CovL E E0
 | [],_ => .nil
 | (t,v)::r,h => .cons (Js h) (zs8 (List.tail_eq_of_cons_eq h))
theorem cvE{E E0:Env}(h:zsp E.vs E0.vs=zso E0.vs)(d:E.ds=E0.ds):Cov E E0:=⟨zs8 h,d⟩
theorem biE{b:Bool}{A B:Prop}(h:b=true->A)(k:b=false->B):(b=true->A)/\(b=false->B):=⟨h,k⟩
end Go.Vc
namespace Go.Vc
open Go.RowKit
def zW (E:Env) (x:Operand) (f:Value->Prop):Prop:=match opd E x with | some v=>f v | none=>False
def zfB (E:Env):List Operand->(List Value->Prop)->Prop
 | [],f=>f []
 | x::r,f=>zW E x fun v=>zfB E r fun vs=>f (v::vs)
theorem zp{E:Env}{x:Operand}{f:Value->Prop}(h:zW E x f):∃v,opd E x=some v/\f v:=by
 unfold zW at h
 split at h
 ·exact⟨_,by assumption,h⟩
 ·exact h.elim
theorem zaw{S:Sig}{E:Env}:∀{l:List Operand} {f:List Value->Prop},zfB E l f->∃vs,f vs/\∀a,Agrees S a E->l.map a.eval=vs
 | [],f,h=>⟨[],h,fun _ _=>rfl⟩
 | x::r,f,h=>by
  obtain⟨v,d,h⟩:=zp h;obtain⟨vs,e,c⟩:=zaw (S:=S) h;exact⟨v::vs,e,fun a b=>by simp only[Uq,b.eval d,c a b]⟩
def zl6 (P:Program) (m:Sem Value) (K:Value->Prop):Prop:=∃v,(∀w,m.run P w = .ok v w)/\K v
def zhC (P:Program) (w:Wd) (m:Sem Value) (K:Value->Prop):Prop:=∃v,(∀w2,Bw w w2->m.run P w2 = .ok v w2)/\K v
def kEq (k k':IntKind):Bool:=decide (k=k')
def zqk (op:BinOp) (k:IntKind) (a b:Int) (K:Value->Prop):Prop :=
 match op with
 | .lss=>K (.bool (decide (a<b)))
 | .leq=>K (.bool (decide (a<=b)))
 | .gtr=>K (.bool (decide (b<a)))
 | .geq=>K (.bool (decide (b<=a)))
 | .eql=>K (.bool (decide (a=b)))
 | .neq=>K (.bool (!decide (a=b)))
 | .add=>Ar k (a+b) K
 | .sub=>Ar k (a-b) K
 | .mul=>Ar k (a*b) K
 | .quo=>b≠0/\Ar k (a.tdiv b) K
 | .rem=>b≠0/\∃r,a.tmod b=r/\K (.int k r)
 | .and=>∃r,k.wrap ((BitVec.ofInt k.bits a&&&BitVec.ofInt k.bits b).toNat)=r/\K (.int k r)
 | .or=>∃r,k.wrap ((BitVec.ofInt k.bits a|||BitVec.ofInt k.bits b).toNat)=r/\K (.int k r)
 | .xor=>∃r,k.wrap ((BitVec.ofInt k.bits a ^^^ BitVec.ofInt k.bits b).toNat)=r/\K (.int k r)
 | .andNot=>∃r,k.wrap ((BitVec.ofInt k.bits a &&& ~~~ BitVec.ofInt k.bits b).toNat)=r/\K (.int k r)
 | _=>False
def zq3 (P:Program) (op:BinOp) (T:TypeId) (x y:Operand) (vx vy:Value) (K:Value->Prop):Prop :=
 match vx,vy with
 | .int k a,.int k' b =>
  match op with
  | .shl=>0<=b/\Ar k (a*2^(min b.toNat k.bits)) K
  | .shr=>0<=b/\∃r,a.fdiv (2^(min b.toNat k.bits))=r/\K (.int k r)
  | op=>match kEq k k' with
   | true=>zqk op k a b K
   | false=>False
 | vx,vy=>zl6 P (do eqGuard op T x y vx vy;binOp op T vx vy) K
def zie (o:Option TI) (f:Nat) (g:Nat->Nat->Bool->Prop):Prop :=
 match o with
 | some { kind := .struct fs,.. }=>(match fs[f]? with
  | some (off,sz,agg)=>g off sz agg
  | none=>False)
 | _=>False
def zdV (off sz:Nat) (agg:Bool) (cs:List Value) (K:Value->Prop):Prop :=
 match agg with
 | true=>K (.agg ((cs.drop off).take sz).toArray)
 | false=>match cs[off]? with
  | some v=>K v
  | none=>False
def idx (vi:Value) (n:Nat) (g:Nat->Prop):Prop :=
 match vi with
 | .int _ i=>∃j:Nat,(j:Int)=i/\j<n/\g j
 | _=>False
def zdu (o:Option TI) (vx vi:Value) (K:Value->Prop):Prop :=
 match o with
 | some { kind := .slice _ esz,.. }=>(match vx with
  | .slice (some ⟨b,o,none⟩) len _=>idx vi len fun j=>K (.pointer (some ⟨b,o+j*esz,none⟩))
  | _=>False)
 | some { kind := .array n _ esz _,.. }=>(match vx with
  | .pointer (some ⟨b,o,none⟩)=>idx vi n fun j=>K (.pointer (some ⟨b,o+j*esz,none⟩))
  | _=>False)
 | _=>False
def bnd (o:Option Value) (dflt top:Nat) (g:Nat->Prop):Prop :=
 match o with
 | none=>g dflt
 | some (.int _ i)=>∃j:Nat,(j:Int)=i/\j<=top/\g j
 | some _=>False
def z7 (base:OA) (m l esz:Nat):OA:=if m=l then base else base.map (·.add (l*esz))
def zke (o:Option TI) (vx:Value) (lo hi:Option Value) (K:Value->Prop):Prop :=
 match o with
 | some { kind := .slice _ esz,.. }=>(match vx with
  | .slice base len cap=>bnd hi len cap fun h=>bnd lo 0 h fun l=>K (.slice (z7 base cap l esz) (h-l) (cap-l))
  | _=>False)
 | some { kind := .array n _ esz _,.. }=>(match vx with
  | .pointer (some a)=>bnd hi n n fun h=>bnd lo 0 h fun l=>K (.slice (z7 (some a) n l esz) (h-l) (n-l))
  | _=>False)
 | some { kind := .string,.. }=>(match vx with
  | .string s=>bnd hi s.size s.size fun h=>bnd lo 0 h fun l=>K (.string (s.extract l h))
  | _=>False)
 | _=>False
def ziD (E:Env) (o:Option Operand) (f:Option Value->Prop):Prop :=
 match o with
 | none=>f none
 | some x=>zW E x fun v=>f (some v)
def zfS (l:List Value) (off:Nat):List Value->List Value
 | []=>l
 | v::r=>zfS (l.set off v) (off+1) r
def zdb (place:Nat->Option (Nat×Nat)) (cells:List Value):List (Nat×Value)->Option (List Value)
 | []=>some cells
 | (i,v)::qA=>match place i with
  | none=>none
  | some (off,sz)=>match Nat.beq v.cells.size sz&&Nat.ble (off+sz) cells.length with
   | true=>zdb place (zfS cells off v.cells.toList) qA
   | false=>none
def zgM:List (Nat×Operand)->List Value->List (Nat×Value)
 | (i,_)::r,v::vs=>(i,v)::zgM r vs
 | _,_=>[]
def zhW (fs:List (Nat×Nat×Bool)) (i:Nat):Option (Nat×Nat) :=
 match fs[i]? with
 | some (off,sz,_)=>some (off,sz)
 | none=>none
def zo6 (o:Option TI) (ps:List (Nat×Operand)) (vs:List Value) (K:Value->Prop):Prop :=
 match o with
 | some { kind := .struct fs,zero:=some z,.. }=>∃cells,zdb (zhW fs) z (zgM ps vs)=some cells/\K (.agg cells.toArray)
 | some { kind := .array _ _ esz _,zero:=some z,.. }=>∃cells,zdb (fun i=>some (i*esz,esz)) z (zgM ps vs)=some cells/\K (.agg cells.toArray)
 | _=>False
def zby (z:List Value):Nat->List Value
 | 0=>[]
 | n+1=>z++zby z n
def isN (op:Op):Bool :=
 match op with
 | .move _ | .assign _ | .pick .. | .binOp .. | .unOp .. | .field .. | .index .. | .fieldAddr .. | .indexAddr .. | .slice .. | .extract .. | .makeFunc .. | .nilCheck _ | .build .. => true
 | _=>false
def zn3 (S:Sig) (E:Env) (op:Op) (w:Wd) (K:Value->Prop):Prop :=
 match op with
 | .move x=>zW E x K
 | .assign x=>zW E x K
 | .pick c a b=>zW E c fun vc=>zW E a fun va=>zW E b fun vb=>(match vc with
  | .bool t=>K (match t with | true=>va | false=>vb)
  | _=>False)
 | .binOp op T x y _=>zW E x fun vx=>zW E y fun vy=>zq3 S.P op T x y vx vy K
 | .unOp op _ x=>zW E x fun v=>(match op,v with
  | .not,.bool b=>K (.bool (!b))
  | .neg,.int k n=>Ar k (0-n) K
  | op,v=>zl6 S.P (Op.unary op v) K)
 | .convert s d x=>zW E x fun v=>(match TT.get S.τ s,TT.get S.τ d,v with
  | some _,some { kind := .int k,.. },.int _ n=>Ar k n K
  | _,_,v=>zhC S.P w (convert s d v) K)
 | .field T x f=>zW E x fun v=>zie (TT.get S.τ T) f fun off sz agg=>(match v with
  | .agg cs=>zdV off sz agg cs.toList K
  | _=>False)
 | .index T x i=>zW E x fun vx=>zW E i fun vi=>(match TT.get S.τ T,vx with
  | some { kind := .array n _ esz eagg,.. },.agg cs=>idx vi n fun j=>zdV (j*esz) esz eagg cs.toList K
  | some { kind := .string,.. },.string s=>idx vi s.size fun j=>∃u,s.data.toList[j]?=some u/\K (.int .u8 u.toNat)
  | _,_=>False)
 | .fieldAddr T x f=>zW E x fun v=>zie (TT.get S.τ T) f fun off sz _=>(match Nat.beq sz 0 with
  | true=>False
  | false=>(match v with
   | .pointer (some ⟨b,o,none⟩)=>K (.pointer (some ⟨b,o+off,none⟩))
   | _=>False))
 | .indexAddr T x i=>zW E x fun vx=>zW E i fun vi=>zdu (TT.get S.τ T) vx vi K
 | .slice T x lo hi mx=>zW E x fun vx=>ziD E lo fun l=>ziD E hi fun h=>(match mx with
  | none=>zke (TT.get S.τ T) vx l h K
  | some _=>False)
 | .lookup T x i ok=>zW E x fun vx=>zW E i fun vi=>zhC S.P w (Instr.lookup T vx vi ok) K
 | .build T ps=>zfB E (ps.toList.map (·.2)) fun vs=>zo6 (TT.get S.τ T) ps.toList vs K
 | .extract t i=>zW E t fun v=>(match v with
  | .tuple vs=>(match vs.toList[i]? with
   | some u=>K u
   | none=>False)
  | _=>False)
 | .makeFunc fn first captured=>zfB E first.toList fun fs=>zfB E captured.toList fun cs=>K (.func fn fs.toArray cs.toArray)
 | .nilCheck x=>zW E x fun v=>(match v with
  | .pointer (some a)=>K (.pointer (some a))
  | .func (.func f) a b=>K (.func (.func f) a b)
  | _=>False)
 | .load T a=>zW E a fun v=>(match v with
  | .pointer (some p)=>(match TT.get S.τ T with
   | some { agg:=true,size:=sz,.. }=>∃vs:List Value,vs.length=sz/\zF w p vs/\(p.block<w.heap.size)/\K (.agg vs.toArray)
   | some { agg:=false,.. }=>∃u,w.cell? p=some u/\K u
   | none=>False)
  | _=>False)
 | .call c=>(match c.callee with
  | .builtin .len=>(match c.args.toList,c.argTypes.toList with
   | [x],[T]=>zW E x fun v=>(match TT.get S.τ T,v with
    | some { kind := .slice _ _,.. },.slice _ n _=>K (.int .i64 n)
    | some { kind := .string,.. },.string s=>K (.int .i64 s.size)
    | some { kind := .array n _ _ _,.. },_=>K (.int .i64 n)
    | _,_=>False)
   | _,_=>False)
  | _=>False)
 | _=>False
section
variable{P:Program}{w:Wd}
theorem j5(b o:Nat)(j:Nat):(⟨b,o,none⟩:Addr).add j=⟨b,o+j,none⟩:=by
 unfold Addr.add;split <;> simp_all
theorem zoA{op:BinOp}{k:IntKind}{a b:Int}{K:Value->Prop}(T:TypeId)(x y:Operand)(h1:op ≠ .shl)(h2:op ≠ .shr)(h:zqk op k a b K) :
  ∃v,K v/\∀w,(do eqGuard op T x y (.int k a) (.int k b);binOp op T (.int k a) (.int k b):Sem Value).run P w = .ok v w:=by
 have i:∀w,(eqGuard op T x y (.int k a) (.int k b)).run P w = .ok () w:=by
  intro w;unfold eqGuard;cases op <;> simp
 have d:∀v,(∀w,(binOp op T (.int k a) (.int k b)).run P w = .ok v w)->∀w,(do eqGuard op T x y (.int k a) (.int k b);binOp op T (.int k a) (.int k b):Sem Value).run P w = .ok v w:=by
  intro v g w;rw[UJ,i w,KT,g w]
 cases op <;> simp only[zqk] at h
 case lss=>exact⟨_,h,d _ fun w=>by simp[binOp,Op.intCmp]⟩
 case leq=>exact⟨_,h,d _ fun w=>by simp[binOp,Op.intCmp]⟩
 case gtr=>exact⟨_,h,d _ fun w=>by simp[binOp,Op.intCmp]⟩
 case geq=>exact⟨_,h,d _ fun w=>by simp[binOp,Op.intCmp]⟩
 case eql=>exact⟨_,h,d _ fun w=>by simp[binOp,Op.intCmp];rfl⟩
 case neq=>exact⟨_,h,d _ fun w=>by simp[binOp,Op.intCmp];rfl⟩
 case add=>obtain⟨r,e,c⟩:=h;exact⟨_,c,d _ fun w=>by simp[binOp,Op.intArith,e]⟩
 case sub=>obtain⟨r,e,c⟩:=h;exact⟨_,c,d _ fun w=>by simp[binOp,Op.intArith,e]⟩
 case mul=>obtain⟨r,e,c⟩:=h;exact⟨_,c,d _ fun w=>by simp[binOp,Op.intArith,e]⟩
 case quo=>obtain⟨f,r,e,c⟩:=h;exact⟨_,c,d _ fun w=>by simp[binOp,Op.intDiv,e,f]⟩
 case rem=>obtain⟨f,r,e,c⟩:=h;exact⟨_,c,d _ fun w=>by simp[binOp,Op.intDiv,e,f]⟩
 case and=>obtain⟨r,e,c⟩:=h;exact⟨_,c,d _ fun w=>by simp only[binOp,ne_eq,KU,UZ,Op.intBits,UK,e]⟩
 case or=>obtain⟨r,e,c⟩:=h;exact⟨_,c,d _ fun w=>by simp only[binOp,ne_eq,KU,UZ,Op.intBits,UK,e]⟩
 case xor=>obtain⟨r,e,c⟩:=h;exact⟨_,c,d _ fun w=>by simp only[binOp,ne_eq,KU,UZ,Op.intBits,UK,e]⟩
 case andNot=>obtain⟨r,e,c⟩:=h;exact⟨_,c,d _ fun w=>by simp only[binOp,ne_eq,KU,UZ,Op.intBits,UK,e]⟩
theorem zo9{op:BinOp}{T:TypeId}{x y:Operand}{vx vy:Value}{K:Value->Prop}(h:zq3 P op T x y vx vy K) :
  ∃v,K v/\∀w,(do eqGuard op T x y vx vy;binOp op T vx vy:Sem Value).run P w = .ok v w:=by
 unfold zq3 at h
 split at h
 ·rename_i k a j b
  split at h
  ·obtain⟨d,r,e,c⟩:=h;exact⟨_,c,fun w=>by simp[eqGuard,binOp,Op.shift,e,Int.not_lt.2 d]⟩
  ·obtain⟨d,r,e,c⟩:=h;exact⟨_,c,fun w=>by simp[eqGuard,binOp,Op.shift,e,Int.not_lt.2 d]⟩
  ·rename_i f i
   split at h
   ·rename_i c;have:k=j:=(by simpa [kEq] using c);subst this;exact zoA T x y f i h
   ·exact h.elim
 ·obtain⟨v,g,c⟩:=h;exact⟨v,c,g⟩
theorem zhb{off sz:Nat}{agg:Bool}{cs:Array Value}{K:Value->Prop}{t:TypeId}(h:zdV off sz agg cs.toList K)
  (ha:((P.underlying t).map zem).getD false=agg) (hs:P.cellsOf t=sz) (hn:zfd P t) :
  ∃v,K v/\∀w,(part t cs off).run P w = .ok v w:=by
 obtain⟨⟨i,g⟩,d,e⟩:=hn;have a:∀w,(isAgg t).run P w = .ok agg w:=by
  intro w;rw[e] at ha;simp only[QU,Qv] at ha;simp only[isAgg,UJ,Ui e,KT];rw[<- ha]
  cases d <;> rfl
 have b:∀w,(sizeOf t).run P w = .ok sz w:=by
  intro w;rw[<- hs];simp[sizeOf,typeInfo,g,Program.cellsOf]
 unfold zdV at h
 split at h
 ·refine⟨_,h,fun w=>?_⟩;simp only[part,UJ,a w,KT,Gb,b w,UK];congr 2;apply KW.1;simp[JO,List.extract_eq_take_drop]
 ·split at h
  ·rename_i v f;refine⟨_,h,fun w=>?_⟩;have c:cs[off]?=some v:=by simpa using f
   simp only[part,UJ,a w,KT,c,Kn,UZ,UK]
  ·exact h.elim
theorem jZ{t:TypeId}{sz:Nat}(hn:zfd P t)(hs:P.cellsOf t=sz):∀w,(sizeOf t).run P w = .ok sz w:=by
 intro w;obtain⟨⟨i,a⟩,_⟩:=hn;rw[<- hs];simp[sizeOf,typeInfo,a,Program.cellsOf]
theorem zl3{o:Option Value}{top dflt:Nat}{code:BoundsCode}{g:Nat->Prop}(h:bnd o dflt top g) :
  ∃j,g j/\j<=(match o with | none=>dflt | some _=>top)/\∀w,(match o with | some v=>Instr.sliceBound v top code | none=>pure dflt:Sem Nat).run P w = .ok j w:=by
 unfold bnd at h
 split at h
 ·exact⟨dflt,h,UN _,fun w=>rfl⟩
 ·rename_i k i;obtain⟨j,rfl,b,a⟩:=h;refine⟨j,a,b,fun w=>?_⟩;have c:(0:Int)<=(j:Int)/\(j:Int)<=(top:Int):=⟨by omega,by omega⟩;simp[Instr.sliceBound,asIntOf,c]
 ·exact h.elim
theorem zaN{isSlice:Bool}{len cap:Nat}{lo hi:Option Value}{g:Nat->Nat->Prop}(h:bnd hi len cap fun h=>bnd lo 0 h fun l=>g h l) :
  ∃l h,g h l/\∀w,(Instr.sliceBounds isSlice len cap lo hi none).run P w = .ok (l,h,cap) w:=by
 obtain⟨e,d,_,b⟩:=zl3 (P:=P) (code:=if isSlice then .sliceAcap else .sliceAlen) h;obtain⟨l,a,_,c⟩:=zl3 (P:=P) (code := .sliceB) d;refine⟨l,e,a,fun w=>?_⟩;have f:=b w;have i:=c w;unfold Instr.sliceBounds
 cases hi <;> cases lo <;> simp_all
theorem ziV(off:Nat):∀(vs:List Value) (j:Nat) (l:List Value),((vs.toArray.zipIdx j).foldl (fun cs (c,j)=>cs.setIfInBounds (off+j) c) l.toArray)=(zfS l (off+j) vs).toArray
 | [],j,l=>by rw [<- Kl];simp [zfS]
 | v::r,j,l=>by
  have a:=ziV off r (j+1) (l.set (off+j) v);simp only[zfS];rw[<- Us] at a;rw[<- a,<- Kl,<- Kl];simp
theorem zed{place:Nat->Option (Nat×Nat)}:∀(parts:List (Nat×Value)) (cells out:List Value),zdb place cells parts=some out->Instr.fill place cells.toArray parts=some out.toArray
 | [],cells,out,h=>by simp only [zdb,KS] at h;subst h;rfl
 | (i,v)::r,cells,out,h=>by
  simp only[zdb] at h
  split at h
  ·cases h
  ·rename_i a g f
   split at h
   ·rename_i b;simp only[bAT,US] at b;have d:=JM b.1;have c:=zed r _ out h;have e:=ziV a v.cells.toList 0 cells;simp only[UB] at e;simp only[Instr.fill,f,d,ne_eq,KU,UL,Uk,KQ,dE,gt_iff_lt];rw[Gc (by omega),<- c];congr 1
   ·cases h
theorem zfw(z:List Value):∀n,(zby z n).length=n*z.length
 | 0=>by simp [zby]
 | n+1=>by simp only [zby,lap,zfw z n,UM];omega
theorem ziy(z:List Value)(hz:0<z.length):∀(n i:Nat),i<n*z.length->(zby z n)[i]?=z[i%z.length]?
 | 0,i,h=>by omega
 | n+1,i,h=>by
  simp only[zby,List.getElem?_append]
  split
  ·rename_i a;rw[Qt a]
  ·rename_i a;rw[UM] at h;rw[ziy z hz n (i-z.length) (by omega)];rw[show i%z.length=(i-z.length)%z.length from Nat.mod_eq_sub_mod (by omega)]
theorem zld(z:List Value)(hz:0<z.length)(n:Nat):((Array.range (n*z.length)).map (z.toArray[· % z.toArray.size]!))=(zby z n).toArray:=by
 apply Array.ext
 ·simp[zfw]
 ·intro i e d;have a:i<n*z.length:=by simpa using e
  have b:i%z.length<z.length:=UU _ hz;have:=ziy z hz n i a;rw[gE b] at this;simp only[Array.getElem_map,Array.getElem_range,KQ,List.getElem_toArray];have c:(zby z n)[i]?=some (zby z n)[i]:=gE (by simpa using d);rw[c] at this;simp only[KS] at this;rw[this,getElem!_pos _ _ (by simpa using b)];rfl
end
theorem zbj{w w2:Wd}(hb:Bw w w2){p:Addr}{u:Value}(h:w.cell? p=some u):w2.cell? p=some u :=
 (hb.cell (Ju w p h)).trans h
theorem zd9{vi:Value}{n:Nat}{g:Nat->Prop}(h:idx vi n g):∃k j,vi = .int k (j:Nat)/\j<n/\g j:=by
 unfold idx at h
 split at h
 ·rename_i k i;obtain⟨j,rfl,b,a⟩:=h;exact⟨k,j,rfl,b,a⟩
 ·exact h.elim
theorem ze2{P:Program}{w:Wd}{T:Nat}{i:TI}(ht:TIok P T i)(ha:i.agg=true){p:Addr}{vs:List Value}(hl:vs.length=i.size)(hc:zF w p vs) :
  (loadVar T p).run P w = .ok (.agg vs.toArray) w:=by
 obtain⟨⟨h,j,f,_,_⟩,d,g,e,_⟩:=ht;have a:(isAgg T).run P w = .ok true w:=by
  simp only[isAgg,UJ,Ui g,KT];rw[<- ha,<- e];cases d <;> rfl
 have c:(sizeOf T).run P w = .ok vs.length w:=by
  rw[hl,<- f];simp[sizeOf,typeInfo,j]
 have b:=run_loadCells_list (P:=P) w p vs hc;simp only[loadVar,UJ,a,KT,Gb,c,b,UK]
theorem ze1{P:Program}{w:Wd}{T:Nat}{i:TI}(ht:TIok P T i)(ha:i.agg=false){p:Addr}{u:Value}(hc:w.cell? p=some u) :
  (loadVar T p).run P w = .ok u w:=by
 obtain⟨_,d,c,b,_⟩:=ht;have a:(isAgg T).run P w = .ok false w:=by
  simp only[isAgg,UJ,Ui c,KT];rw[<- ha,<- b];cases d <;> rfl
 simp only[loadVar,UJ,a,KT,Kn,UZ,run_load,hc]
theorem zt{w w2:Wd}(hb:Bw w w2){p:Addr}{vs:List Value}(h:zF w p vs):zF w2 p vs :=
 fun i v a=>zbj hb (h i v a)
def zsC (S:Sig) (E:Env) (o:Oper) (w:Wd) (v:Value):Prop :=
 ∀a,Agrees S a E->∀w2,(isN o.op=true\/Bw w w2)->(execOp a.eval o).run S.P w2 = .ok (.value v) w2
theorem zgl{S:Sig}(hS:SigOk S){T:Nat}{vx vi:Value}{K:Value->Prop}(h:zdu (TT.get S.τ T) vx vi K) :
  ∃v,K v/\∀w,(Instr.indexAt T vx vi).run S.P w = .ok v w:=by
 unfold zdu at h
 split at h
 ·rename_i e a _ _ _ _ l;obtain⟨_,d,f,_,c⟩:=hS.ty _ _ l;obtain⟨rfl,i,g⟩:=c
  split at h
  ·rename_i b o len r;obtain⟨k,j,rfl,m,p⟩:=zd9 h;refine⟨_,p,fun w=>?_⟩;simp[Instr.indexAt,asIntOf,Ui f,jZ g i,m,j5]
  ·exact h.elim
 ·rename_i n e a q _ _ _ _ l;obtain⟨_,d,f,_,c⟩:=hS.ty _ _ l;obtain⟨rfl,i,_,g⟩:=c
  split at h
  ·rename_i b o;obtain⟨k,j,rfl,m,p⟩:=zd9 h;refine⟨_,p,fun w=>?_⟩;simp[Instr.indexAt,asIntOf,Ui f,jZ g i,m,j5,Instr.sureAddr]
  ·exact h.elim
 ·exact h.elim
theorem zkd{S:Sig}(hS:SigOk S){T:Nat}{vx:Value}{lo hi:Option Value}{K:Value->Prop}(h:zke (TT.get S.τ T) vx lo hi K) :
  ∃v,K v/\∀w,(Instr.sliceAt T vx lo hi none).run S.P w = .ok v w:=by
 unfold zke at h
 split at h
 ·rename_i e j _ _ _ _ f;obtain⟨_,d,c,_,b⟩:=hS.ty _ _ f;obtain⟨rfl,m,k⟩:=b
  split at h
  ·rename_i q len r;obtain⟨l,p,i,g⟩:=zaN (P:=S.P) (isSlice:=true) h;refine⟨_,i,fun w=>?_⟩;simp only[Instr.sliceAt,UJ,Ui c,KT,Instr.slice,g w,jZ k m w,UK,z7]
  ·exact h.elim
 ·rename_i n e j o _ _ _ _ f;obtain⟨_,d,c,_,b⟩:=hS.ty _ _ f;obtain⟨rfl,m,_,k⟩:=b
  split at h
  ·rename_i a;obtain⟨l,p,i,g⟩:=zaN (P:=S.P) (isSlice:=false) h;refine⟨_,i,fun w=>?_⟩;simp only[Instr.sliceAt,UJ,Ui c,KT,g w,jZ k m w,UK,Instr.sureAddr,z7]
   split <;> simp_all
  ·exact h.elim
 ·rename_i _ _ _ _ f;obtain⟨_,d,c,_,b⟩:=hS.ty _ _ f;obtain rfl:=b
  split at h
  ·rename_i s;obtain⟨l,p,i,g⟩:=zaN (P:=S.P) (isSlice:=false) h;refine⟨_,i,fun w=>?_⟩;simp only[Instr.sliceAt,UJ,Ui c,KT,Instr.slice,g w,UK,Option.isSome_none,Kn,UZ]
  ·exact h.elim
 ·exact h.elim
theorem ze9{S:Sig}(hS:SigOk S){T f:Nat}{g:Nat->Nat->Bool->Prop}(h:zie (TT.get S.τ T) f g) :
  ∃(F:Array Field) (fd:Field),S.P.underlying T=some (.struct F)/\F[f]?=some fd/\g fd.offset (S.P.cellsOf fd.type) (((S.P.underlying fd.type).map zem).getD false)/\zfd S.P fd.type:=by
 unfold zie at h
 split at h
 ·rename_i m _ _ _ _ k;obtain⟨_,d,i,_,b⟩:=hS.ty _ _ k;obtain⟨F,rfl,rfl,j⟩:=b
  split at h
  ·rename_i e l c a;rw[KM] at a
   cases hF:F.toList[f]? with
   | none=>rw [hF] at a;simp at a
   | some fd =>
    rw[hF] at a;simp only[QU,KS,Uu] at a;obtain⟨rfl,rfl,rfl⟩:=a;exact⟨F,fd,i,by simpa using hF,h,j fd (JS hF)⟩
  ·exact h.elim
 ·exact h.elim
theorem zeZ{S:Sig}(hS:SigOk S){E:Env}{o:Oper}{w:Wd}{K:Value->Prop}(h:zn3 S E o.op w K):∃v,K v/\zsC S E o w v:=by
 obtain⟨a1,op,type,a2,az,aw⟩:=o
 cases op <;> simp only[zn3] at h
 case move x =>
  obtain⟨v,hv,q⟩:=zp h;exact⟨v,q,fun a m w2 _=>by simp[execOp,m.eval hv]⟩
 case assign x =>
  obtain⟨v,hv,q⟩:=zp h;exact⟨v,q,fun a m w2 _=>by simp[execOp,m.eval hv]⟩
 case pick c x y =>
  replace h:=zp h;obtain⟨vc,hc,h⟩:=h;replace h:=zp h;obtain⟨va,hx,h⟩:=h;replace h:=zp h;obtain⟨vb,hy,h⟩:=h
  split at h
  ·rename_i t;refine⟨_,h,fun a m w2 _=>?_⟩;simp only[execOp,m.eval hc,m.eval hx,m.eval hy,asBool,UJ,UK,KT]
   cases t <;> rfl
  ·exact h.elim
 case binOp op T x y yt =>
  replace h:=zp h;obtain⟨vx,hx,h⟩:=h;replace h:=zp h;obtain⟨vy,hy,h⟩:=h;obtain⟨v,q,hr⟩:=zo9 h;refine⟨v,q,fun a m w2 _=>?_⟩;simp only[execOp,m.eval hx,m.eval hy];rw[UJ,hr w2];rfl
 case unOp op T x =>
  replace h:=zp h;obtain⟨v,hv,h⟩:=h
  split at h
  ·exact⟨_,h,fun a m w2 _=>by simp[execOp,m.eval hv,Op.unary]⟩
  ·obtain⟨r,e,q⟩:=h;exact⟨_,q,fun a m w2 _=>by simp only[Int.zero_sub] at e;simp[execOp,m.eval hv,Op.unary,Op.intArith,e]⟩
  ·obtain⟨u,hu,q⟩:=h;exact⟨u,q,fun a m w2 _=>by simp only[execOp,m.eval hv];rw[UJ,hu w2];rfl⟩
 case convert s d x =>
  replace h:=zp h;obtain⟨v,hv,h⟩:=h
  split at h
  ·rename_i hs hd;obtain⟨_,ds,aq,_⟩:=hS.ty _ _ hs;obtain⟨_,dd,au,_,q⟩:=hS.ty _ _ hd;obtain rfl:=q;obtain⟨r,e,q⟩:=h;refine⟨_,q,fun a m w2 _=>?_⟩;simp only[execOp,m.eval hv,UJ,convert,Ui aq,Ui au,KT,Conv.intToInt,UK,e]
  ·obtain⟨u,hu,q⟩:=h;exact⟨u,q,fun a m w2 hb=>by simp only[execOp,m.eval hv];rw[UJ,hu w2 (hb.resolve_left (by simp[isN]))];rfl⟩
 case field T x f =>
  replace h:=zp h;obtain⟨v,hv,h⟩:=h;obtain⟨F,fd,hu,hf,h,hn⟩:=ze9 hS h
  split at h
  ·rename_i cs;obtain⟨v',q,hr⟩:=zhb h rfl rfl hn;refine⟨v',q,fun a m w2 _=>?_⟩;simp only[execOp,m.eval hv,UJ,Instr.field,Ui hu,KT,hf,asAgg,UK,hr w2]
  ·exact h.elim
 case index T x i =>
  replace h:=zp h;obtain⟨vx,hx,h⟩:=h;replace h:=zp h;obtain⟨vi,hi,h⟩:=h
  split at h
  ·rename_i n e ak ac _ _ _ _ cs ht;obtain⟨_,d,hd,_,q⟩:=hS.ty _ _ ht;obtain⟨rfl,he,ay,hn⟩:=q;obtain⟨k,j,rfl,hj,hg⟩:=zd9 h;obtain⟨v',q,hr⟩:=zhb hg ay he hn;refine⟨v',q,fun a m w2 _=>?_⟩;have h1:(0:Int)<=(j:Int)/\(j:Int)<(n:Int):=⟨by omega,by omega⟩;simp only[execOp,m.eval hx,m.eval hi,UJ,Instr.index,asIntOf,UK,Ui hd,KT,h1,and_self,Gb,jZ hn he,KE,hr w2]
  ·rename_i s ht;obtain⟨_,d,hd,_,q⟩:=hS.ty _ _ ht;obtain rfl:=q;obtain⟨k,j,rfl,hj,u,hu,hg⟩:=zd9 h;refine⟨_,hg,fun a m w2 _=>?_⟩;have al:s[j]?=some u:=by
    have h2:s.data[j]?=some u:=(by simpa using hu);obtain⟨hlt,e⟩:=Ji.1 h2;rw[getElem?_pos s j hj];exact UY some e
   simp[execOp,m.eval hx,m.eval hi,Instr.index,asIntOf,Ui hd,al]
  ·exact h.elim
 case fieldAddr T x f =>
  replace h:=zp h;obtain⟨v,hv,h⟩:=h;obtain⟨F,fd,hu,hf,h,hn⟩:=ze9 hS h
  split at h
  ·exact h.elim
  ·rename_i hz;have av:S.P.cellsOf fd.type≠0:=fun e=>by rw[e] at hz;simp at hz
   split at h
   ·rename_i b o;refine⟨_,h,fun a m w2 _=>?_⟩;simp only[execOp,m.eval hv,UJ,Instr.fieldAt,Ui hu,KT,hf,UK,Instr.sureAddr,fieldPlace,jZ hn rfl w2,av,UZ,j5]
   ·exact h.elim
 case indexAddr T x i =>
  replace h:=zp h;obtain⟨vx,hx,h⟩:=h;replace h:=zp h;obtain⟨vi,hi,h⟩:=h;obtain⟨v,q,hr⟩:=zgl hS h;exact⟨v,q,fun a m w2 _=>by simp only[execOp,m.eval hx,m.eval hi];rw[UJ,hr w2];rfl⟩
 case slice T x lo hi mx =>
  replace h:=zp h;obtain⟨vx,hx,h⟩:=h;have oe:∀{o:Option Operand} {f:Option Value->Prop},ziD E o f->∃ov,f ov/\∀a,Agrees S a E->o.map a.eval=ov:=by
   intro o f h
   cases o with
   | none=>exact⟨none,h,fun _ _=>rfl⟩
   | some x=>obtain⟨v,hv,hf⟩:=zp h;exact⟨some v,hf,fun a m=>by simp [m.eval hv]⟩
  obtain⟨l,h,hl⟩:=oe h;obtain⟨hh,h,ar⟩:=oe h
  split at h
  ·obtain⟨v,q,hr⟩:=zkd hS h;exact⟨v,q,fun a m w2 _=>by simp only[execOp,m.eval hx,hl a m,ar a m,QT];rw[UJ,hr w2];rfl⟩
  ·exact h.elim
 case lookup T x i ok =>
  replace h:=zp h;obtain⟨vx,hx,h⟩:=h;replace h:=zp h;obtain⟨vi,hi,u,hu,q⟩:=h;exact⟨u,q,fun a m w2 hb=>by simp only[execOp,m.eval hx,m.eval hi];rw[UJ,hu w2 (hb.resolve_left (by simp[isN]))];rfl⟩
 case build T ps =>
  obtain⟨vs,h,a0⟩:=zaw (S:=S) h;have e:∀a,Agrees S a E->(ps.map fun(i,x)=>(i,a.eval x)).toList=zgM ps.toList vs:=fun a m=>by
   rw[<- a0 a m];simp only[KX,Uw];generalize ps.toList=l
   induction l with
   | nil=>rfl
   | cons p r ih=>obtain⟨i,x⟩:=p;simp only [Uq,Ka,zgM,ih]
  unfold zo6 at h
  split at h
  ·rename_i fs _ _ _ z ht;obtain⟨⟨ap,hi,_,_,aj⟩,d,hd,_,q⟩:=hS.ty _ _ ht;obtain⟨F,rfl,rfl,ad⟩:=q;obtain⟨zv,ae,ag⟩:=aj z rfl;obtain⟨cells,hf,q⟩:=h;refine⟨_,q,fun a m w2 _=>?_⟩;have af:(zeroValue T).run S.P w2 = .ok zv w2:=by simp[zeroValue,typeInfo,hi,ae]
   have ax:(F.mapM fun f=>do pure (f.offset,<- sizeOf f.type):Sem (Array (Nat×Nat))).run S.P w2 = .ok (F.map fun f=>(f.offset,S.P.cellsOf f.type)) w2:=by
    rw[Array.mapM_eq_mapM_toList,Sem.run_map];have ao:∀l:List Field,(∀f∈l,zfd S.P f.type)->(l.mapM fun f=>do pure (f.offset,<- sizeOf f.type):Sem (List (Nat×Nat))).run S.P w2 = .ok (l.map fun f=>(f.offset,S.P.cellsOf f.type)) w2:=by
     intro l
     induction l with
     | nil=>intro _;rfl
     | cons f r ih =>
      intro hl;simp only[Ud,UJ,jZ (hl f Ku) rfl w2,KT,UK,ih (fun g hg=>hl g (JR _ hg)),Uq]
    rw[ao F.toList ad];simp only[KT];congr 1;rw[<- KW];simp
   have ai:=zed _ _ _ hf;have ab:(fun i=>(F.map fun f=>(f.offset,S.P.cellsOf f.type))[i]?)=zhW (F.toList.map fun f=>(f.offset,S.P.cellsOf f.type,((S.P.underlying f.type).map zem).getD false)):=by
    funext i;simp only[zhW,KM,Array.getElem?_map,Array.getElem?_toList]
    cases F[i]? <;> rfl
   simp only[execOp,UJ,Instr.build,af,KT,Ui hd,ax];rw[ab,e a m];have ah:zv.cells=z.toArray:=by rw[<- ag]
   rw[ah,ai];rfl
  ·rename_i n e0 ak ac _ _ _ z ht;obtain⟨⟨ap,hi,_,_,aj⟩,d,hd,_,q⟩:=hS.ty _ _ ht;obtain⟨rfl,he,_,ad⟩:=q;obtain⟨zv,ae,ag⟩:=aj z rfl;obtain⟨cells,hf,q⟩:=h;refine⟨_,q,fun a m w2 _=>?_⟩;have af:(zeroValue T).run S.P w2 = .ok zv w2:=by simp[zeroValue,typeInfo,hi,ae]
   have ai:=zed _ _ _ hf;simp only[execOp,UJ,Instr.build,af,KT,Ui hd,jZ ad he w2];rw[e a m];have ah:zv.cells=z.toArray:=by rw[<- ag]
   rw[ah,ai];rfl
  ·exact h.elim
 case extract t i =>
  replace h:=zp h;obtain⟨v,hv,h⟩:=h
  split at h
  ·rename_i vs
   split at h
   ·rename_i u hu;refine⟨_,h,fun a m w2 _=>?_⟩;have al:vs[i]?=some u:=(by simpa using hu);simp[execOp,m.eval hv,Instr.extract,al]
   ·exact h.elim
  ·exact h.elim
 case makeFunc fn first captured =>
  obtain⟨fs,h,hf⟩:=zaw (S:=S) h;obtain⟨cs,h,hc⟩:=zaw (S:=S) h;refine⟨_,h,fun a m w2 _=>?_⟩;have e1:first.map a.eval=fs.toArray:=by rw[<- hf a m,<- KX]
  have e2:captured.map a.eval=cs.toArray:=by rw[<- hc a m,<- KX]
  simp[execOp,Instr.makeFunc,e1,e2]
 case nilCheck x =>
  replace h:=zp h;obtain⟨v,hv,h⟩:=h
  split at h
  ·exact⟨_,h,fun a m w2 _=>by simp[execOp,m.eval hv]⟩
  ·exact⟨_,h,fun a m w2 _=>by simp[execOp,m.eval hv]⟩
  ·exact h.elim
 case load T x =>
  replace h:=zp h;obtain⟨v,hv,h⟩:=h
  split at h
  ·split at h
   ·rename_i sz _ _ ht;obtain⟨vs,hl,hc,_,q⟩:=h;refine⟨_,q,fun a m w2 hb=>?_⟩;replace hb:=hb.resolve_left (by simp[isN]);simp only[execOp,m.eval hv,UJ,Instr.loadAt,Instr.sureAddr,UK,KT,ze2 (hS.ty _ _ ht) rfl hl (zt hb hc)]
   ·rename_i _ _ _ _ ht;obtain⟨u,hc,q⟩:=h;refine⟨_,q,fun a m w2 hb=>?_⟩;replace hb:=hb.resolve_left (by simp[isN]);simp only[execOp,m.eval hv,UJ,Instr.loadAt,Instr.sureAddr,UK,KT,ze1 (hS.ty _ _ ht) rfl (zbj hb hc)]
   ·exact h.elim
  ·exact h.elim
 case call c =>
  obtain⟨an,am,aa⟩:=c
  split at h
  ·rename_i hc;dsimp only at hc;subst hc
   split at h
   ·rename_i x T hx hT;have ex:am = #[x]:=(by rw[<- KW];simpa using hx);have eT:aa = #[T]:=(by rw[<- KW];simpa using hT);subst ex eT;replace h:=zp h;obtain⟨v,hv,h⟩:=h
    split at h
    ·rename_i e ak _ _ _ _ a n c ht;obtain⟨_,d,hd,_,q⟩:=hS.ty _ _ ht;obtain⟨rfl,_⟩:=q;exact⟨_,h,fun a m w2 _=>by simp[execOp,resolve,invoke,builtin,Builtin.len_,m.eval hv,Ui hd,goInt]⟩
    ·rename_i _ _ _ _ s ht;obtain⟨_,d,hd,_,q⟩:=hS.ty _ _ ht;obtain rfl:=q;exact⟨_,h,fun a m w2 _=>by simp[execOp,resolve,invoke,builtin,Builtin.len_,m.eval hv,Ui hd,goInt]⟩
    ·rename_i n e ak ac _ _ _ _ ht;obtain⟨_,d,hd,_,q⟩:=hS.ty _ _ ht;obtain⟨rfl,_⟩:=q;refine⟨_,h,fun a m w2 _=>?_⟩;simp[execOp,resolve,invoke,builtin,Builtin.len_,m.eval hv,Ui hd,goInt]
    ·exact h.elim
   ·exact h.elim
  ·exact h.elim
def NN:Nat:=1000
def CallR (P:Program) (g:Nat) (args:Array Value) (w:Wd) (K:Value->Wd->Prop) (KP:List PanicEntry->Wd->Prop):Prop :=
 Calls P g args w fun e w'=>match e with
  | .returned v=>K v w'
  | .panicked ch=>KP ch w'
  | .outgrown=>False
theorem CallR.mk{P:Program}{g:Nat}{args:Array Value}{w:Wd}{K:Value->Wd->Prop}{KP:List PanicEntry->Wd->Prop}{R:Ending->Wd->Prop}
  (h:Calls P g args w R) (k:∀e w',R e w'->∃v,e = .returned v/\K v w'):CallR P g args w K KP :=
 h.mono fun e w' r=>by obtain⟨v,rfl,b⟩:=k e w' r;exact b
def YieldR (P:Program) (l:Nat) (args:Array Value) (w:Wd) (K:Value->Wd->Prop):Prop :=
 YieldAt (FR none) (NN-1) P l args w fun e w'=>match e with
  | .returned v=>K v w'
  | _=>False
def jh (S:Sig) (g:Nat):Bool:=Nat.ble S.lo g&&Nat.blt g S.hi&&zi5 g S.no
def zlZ (S:Sig) (vf:Value) (vs:List Value) (w:Wd) (K:Value->Wd->Prop) (KP:List PanicEntry->Wd->Prop):Prop :=
 match vf with
 | .func (.func g) first captured=>(match jh S g with
  | true=>CallR S.P g (first.toList++vs++captured.toList).toArray w K KP
  | false=>False)
 | .func (.yield l) first _=>YieldR S.P l (first.toList++vs).toArray w K
 | .func fn first captured=>∃g args,(invoke (.fn fn captured) (first.toList++vs).toArray).run S.P w = .ok (.enter g args) w/\CallR S.P g args w K KP
 | _=>False
def zjP (S:Sig) (b:Builtin) (argTypes:Array TypeId) (type:TypeId) (vs:List Value) (w:Wd) (K:Value->Wd->Prop) (KP:List PanicEntry->Wd->Prop):Prop :=
 match b with
 | .append=>SatR ((Builtin.append_ argTypes type vs.toArray).run S.P w) K
 | .copy=>SatR ((Builtin.copy_ argTypes type vs.toArray).run S.P w) K
 | .cap=>SatR ((Builtin.cap_ argTypes type vs.toArray).run S.P w) K
 | .len=>SatR ((Builtin.len_ argTypes type vs.toArray).run S.P w) K
 | .min=>SatR ((Builtin.min_ argTypes type vs.toArray).run S.P w) K
 | .max=>SatR ((Builtin.max_ argTypes type vs.toArray).run S.P w) K
 | .delete=>SatR ((Builtin.delete_ argTypes type vs.toArray).run S.P w) K
 | .clear=>SatR ((Builtin.clear_ argTypes type vs.toArray).run S.P w) K
 | .panic=>∃v w',(Instr.panic (vs.toArray.getD 0 .nilIface)).run S.P w = .halt (.panic v) w'/\KP [{ v,recovered:=false }] w'
 | _=>False
def zqK (S:Sig) (E:Env) (o:Oper) (w:Wd) (K:Value->Wd->Prop) (KP:List PanicEntry->Wd->Prop):Prop :=
 match o.op with
 | .alloc T=>(match TT.get S.τ T with
  | some { zero:=some z,.. }=>K (.pointer (some ⟨w.heap.size,0,none⟩)) (w.alloc (.cells z.toArray T))
  | _=>False)
 | .box T x=>zW E x fun v=>K (.pointer (some ⟨w.heap.size,0,none⟩)) (w.alloc (.cells v.cells T))
 | .buildSlice T n ps=>zfB E (ps.toList.map (·.2)) fun vs=>(match TT.get S.τ T with
  | some { kind := .slice e esz,.. }=>(match TT.get S.τ e with
   | some { zero:=some z,.. }=>(n*esz<=16777216/\0<esz/\z.length=esz)/\∃cells:List Value,
     zdb (fun i=>some (i*esz,esz)) (zby z n) (zgM ps.toList vs)=some cells /\
     K (.slice (some ⟨w.heap.size,0,none⟩) n n) (w.alloc (.cells cells.toArray e))
   | _=>False)
  | _=>False)
 | .store T a x=>zW E a fun va=>zW E x fun vx=>(match va with
  | .pointer (some p)=>SatR ((storeVar T p vx).run S.P w) fun _ w'=>K undef w'
  | _=>False)
 | .makeSlice T l c=>zW E l fun vl=>zW E c fun vc=>SatR ((Instr.makeSlice T vl vc).run S.P w) K
 | .makeMap T r=>ziD E r fun vr=>SatR ((Instr.makeMap T vr).run S.P w) K
 | .makeInterface T x=>zW E x fun v=>SatR ((Instr.makeInterface T v).run S.P w) K
 | .mapUpdate T m k x=>zW E m fun vm=>zW E k fun vk=>zW E x fun vx=>SatR ((Instr.mapUpdate T vm vk vx).run S.P w) fun _ w'=>K undef w'
 | .insert T m k x=>zW E m fun vm=>zW E k fun vk=>zW E x fun vx=>SatR ((Instr.mapUpdate T vm vk vx).run S.P w) fun _ w'=>K undef w'
 | .mapEntry T m k=>zW E m fun vm=>zW E k fun vk=>SatR ((Instr.mapEntry T vm vk).run S.P w) K
 | .entryStore T m s x=>zW E m fun vm=>zW E s fun vs=>zW E x fun vx=>SatR ((Instr.entryStore T vm vs vx).run S.P w) fun _ w'=>K undef w'
 | .range T x=>zW E x fun v=>SatR ((Instr.range T v).run S.P w) K
 | .next it s=>zW E it fun v=>SatR ((Instr.next v s o.type).run S.P w) K
 | .entry it=>zW E it fun v=>SatR ((Instr.entry v).run S.P w) K
 | .typeAssert x T a ok=>zW E x fun v=>SatR ((Instr.typeAssert v T a ok).run S.P w) K
 | .nilCheck x=>zW E x fun v=>SatR ((execOp (fun _=>v) { o with op := .nilCheck (.tmp 0) }).run S.P w) fun nx w'=>(match nx with
  | .value u=>K u w'
  | _=>False)
 | .panic x=>zW E x fun v=>∃u w',(Instr.panic v).run S.P w = .halt (.panic u) w'/\KP [{ v:=u,recovered:=false }] w'
 | .call c=>zfB E c.args.toList fun vs=>(match c.callee with
  | .value f=>zW E f fun vf=>zlZ S vf vs w K KP
  | .builtin b=>zjP S b c.argTypes o.type vs w K KP
  | .invoke r m=>zW E r fun vr=>∃g args,(callMethod vr m vs.toArray).run S.P w = .ok (.enter g args) w/\CallR S.P g args w K KP)
 | _=>False
theorem zcd{P:Program}{r:Option Nat}{n g:Nat}{args:Array Value}{w:Wd}{R:Ending->Wd->Prop}(h:Calls P g args w R):CallsIn (FR r) n P g args w R:=by
 have c:CallsIn Fence.wide n P g args w R:=callsIn_wide.2 h;exact⟨trivial,fun b _=>c.2 b (room_wide _)⟩
theorem SatR.elim{α:Type}{r:Result α}{K:α->Wd->Prop}(h:SatR r K):∃v w',r = .ok v w'/\K v w':=h
section
variable{S:Sig}{E:Env}{o:Oper}{w:Wd}{K:Value->Wd->Prop}{KP:List PanicEntry->Wd->Prop}{a:Act}{n:Nat}
 {next:Act->Wd->Prop} {Q:Exit->Act->Wd->Prop}
def UponE (S:Sig) (n:Nat) (o:Oper) (a:Act) (w:Wd) (next:Act->Wd->Prop) (Q:Exit->Act->Wd->Prop):Prop :=
 match (execOp a.eval o).run S.P w with
 | .ok (.value v) w'=>next (a.put o.dst v) w'
 | .ok .skip w'=>next (a.put o.dst undef) w'
 | .ok (.enter f args) w'=>CallsIn (FR S.r) (n-1) S.P f args w' fun
   | .returned v,w''=>next (a.put o.dst v) w''
   | .panicked chain,w''=>Q (.panic chain) a w''
   | .outgrown,_=>False
 | .ok (.round l f tmps assign body) w'=>RoundIn (FR S.r) (n-1) S.P l f tmps assign body w' fun
   | .returned v,w''=>next (a.put o.dst v) w''
   | .panicked chain,w''=>Q (.panic chain) a w''
   | .outgrown,_=>False
 | .halt (.panic v) w'=>Q (.panic [{ v,recovered:=false }]) a w'
 | _=>False
theorem UponE.wpIn(hd:∀c,o.op ≠ .defer c)(h:UponE S n o a w next Q):o.wpIn (FR S.r) n S.P a w next Q:=by
 refine⟨fun _ _=>trivial,?_⟩;rw[Oper.semAt_eq _ _ _ hd];unfold UponE at h
 split at h
 case h_1 hr=>rw[hr];exact h
 case h_2 hr=>rw[hr];exact h
 case h_3 hr =>
  rw[hr,Oper.uponIn_enter];exact⟨fun h=>by simp[FR] at h,h.mono fun e d b=>by cases e <;> first | exact b | exact b.elim⟩
 case h_4 hr =>
  rw[hr,Oper.uponIn_round];exact⟨fun h=>by simp[FR] at h,h.mono fun e d b=>by cases e <;> first | exact b | exact b.elim⟩
 case h_5 hr=>rw[hr];exact h
 case h_6=>exact h.elim
theorem qf{v:Value}{w':Wd}(_hd:∀c,o.op ≠ .defer c)(hr:(execOp a.eval o).run S.P w = .ok (.value v) w')(hk:next (a.put o.dst v) w') :
  UponE S n o a w next Q:=by unfold UponE;rw[hr];exact hk
theorem zbZ{w':Wd}(_hd:∀c,o.op ≠ .defer c)(hr:(execOp a.eval o).run S.P w = .ok .skip w')(hk:next (a.put o.dst undef) w') :
  UponE S n o a w next Q:=by unfold UponE;rw[hr];exact hk
theorem zfy{v:Value}{w':Wd}(_hd:∀c,o.op ≠ .defer c)(hr:(execOp a.eval o).run S.P w = .halt (.panic v) w')(hk:Q (.panic [{ v,recovered:=false }]) a w') :
  UponE S n o a w next Q:=by unfold UponE;rw[hr];exact hk
theorem zde{g:Nat}{args:Array Value}{w':Wd}(_hd:∀c,o.op ≠ .defer c)(hr:(execOp a.eval o).run S.P w = .ok (.enter g args) w')(hc:CallR S.P g args w' K KP)
  (hn:∀v w',K v w'->next (a.put o.dst v) w') (hp:∀ch w',KP ch w'->Q (.panic ch) a w') :
  UponE S n o a w next Q:=by
 unfold UponE;rw[hr];refine zcd (hc.mono fun e d b=>?_)
 cases e with
 | returned v=>exact hn _ _ b
 | panicked ch=>exact hp _ _ b
 | outgrown=>exact b.elim
theorem zbn{P:Program}{r r':Option Nat}{n n' l g:Nat}{tmps:Array Value}{assign body:Code}{w:Wd}{R:Ending->Wd->Prop}(h:RoundIn (FR r) n P l g tmps assign body w R) :
  RoundIn (FR r') n' P l g tmps assign body w R :=
 ⟨trivial,fun c b _=>h.2 c b (fun d e=>by simp[FR] at e)⟩
theorem zdB(hS:SigOk S)(h:zqK S E o w K KP)(ha:Agrees S a E)
  (hn:∀v w',K v w'->next (a.put o.dst v) w') (hp:∀ch w',KP ch w'->Q (.panic ch) a w'):UponE S n o a w next Q:=by
 obtain⟨dst,op,am,az,ak,ai⟩:=o;have oe:∀{o:Option Operand} {f:Option Value->Prop},ziD E o f->∃ov,f ov/\o.map a.eval=ov:=by
  intro o f h
  cases o with
  | none=>exact⟨none,h,rfl⟩
  | some x=>obtain⟨v,hv,hf⟩:=zp h;exact⟨some v,hf,by simp [ha.eval hv]⟩
 cases op <;> simp only[zqK] at h
 case alloc T =>
  split at h
  ·rename_i z ht;obtain⟨⟨av,hi,_,_,aj⟩,_⟩:=hS.ty _ _ ht;obtain⟨v,hz,hc⟩:=aj z rfl;refine qf (fun c=>by simp) ?_ (hn _ _ h);have af:(zeroValue T).run S.P w = .ok v w:=by simp[zeroValue,typeInfo,hi,hz]
   have e:v.cells=z.toArray:=by rw[<- hc]
   simp[execOp,Instr.alloc,af,newVar,newRow,newObj,Sem.run,e]
  ·exact h.elim
 case box T x =>
  obtain⟨v,hv,j⟩:=zp h;refine qf (fun c=>by simp) ?_ (hn _ _ j);simp[execOp,Instr.box,ha.eval hv,newVar,newRow,newObj,Sem.run]
 case buildSlice T k ps =>
  obtain⟨vs,j,al⟩:=zaw (S:=S) h;have e:(ps.map fun(i,x)=>(i,a.eval x)).toList=zgM ps.toList vs:=by
   rw[<- al a ha];simp only[KX,Uw];generalize ps.toList=l
   induction l with
   | nil=>rfl
   | cons p r ih=>obtain⟨i,x⟩:=p;simp only [Uq,Ka,zgM,ih]
  split at j
  ·rename_i e1 a3 _ _ _ _ ht
   split at j
   ·rename_i z ay;obtain⟨_,d,hd,_,q⟩:=hS.ty _ _ ht;obtain⟨rfl,he,aw⟩:=q;obtain⟨⟨av,hi,_,_,aj⟩,_⟩:=hS.ty _ _ ay;obtain⟨v,hz,hc⟩:=aj z rfl;obtain⟨⟨a1,aq,ar⟩,cells,hf,q⟩:=j;have hf:=zed _ _ _ hf;subst ar;rw[<- zld z aq k] at hf;refine qf (fun c=>by simp) ?_ (hn _ _ q);have af:∀w,(zeroValue e1).run S.P w = .ok v w:=(by intro w;simp[zeroValue,typeInfo,hi,hz]);have ec:v.cells=z.toArray:=(by rw[<- hc]);have ao:¬(k*z.length > 2^24):=(by omega);simp only[execOp,Instr.buildSlice,UJ,Ui hd,KT,jZ aw he w,ao,UZ];by_cases h0:k*z.length=0
    ·rw[e];simp only[h0,Gb,UJ,UK,KT];rw[h0] at hf;have e0:(Array.map (fun x=>(#[]:Array Value)[x%(#[]:Array Value).size]!) (Array.range 0))=(Array.map (fun x=>z.toArray[x%z.toArray.size]!) (Array.range 0)):=(by simp);rw[e0,hf];simp[newRow,newObj,Sem.run]
    ·rw[e];simp only[h0,UZ,UJ,af,KT,UK,ec,hf];simp[newRow,newObj,Sem.run]
   ·exact j.elim
  ·exact j.elim
 case store T x y =>
  obtain⟨va,ax,j⟩:=zp h;obtain⟨vx,a0,j⟩:=zp j
  split at j
  ·obtain⟨_,w',hr,q⟩:=SatR.elim j;refine zbZ (fun c=>by simp) ?_ (hn _ _ q);simp only[execOp,ha.eval ax,ha.eval a0,Instr.storeAt,Instr.sureAddr,UJ,UK,KT,hr]
  ·exact j.elim
 case makeSlice T l c =>
  obtain⟨vl,hl,j⟩:=zp h;obtain⟨vc,hc,j⟩:=zp j;obtain⟨v,w',hr,q⟩:=SatR.elim j;refine qf (fun c=>by simp) ?_ (hn _ _ q);simp only[execOp,ha.eval hl,ha.eval hc];rw[UJ,hr];rfl
 case makeMap T r =>
  obtain⟨vr,j,ag⟩:=oe h;obtain⟨v,w',hr,q⟩:=SatR.elim j;refine qf (fun c=>by simp) ?_ (hn _ _ q);simp only[execOp,ag];rw[UJ,hr];rfl
 case makeInterface T x =>
  obtain⟨vx,hx,j⟩:=zp h;obtain⟨v,w',hr,q⟩:=SatR.elim j;refine qf (fun c=>by simp) ?_ (hn _ _ q);simp only[execOp,ha.eval hx];rw[UJ,hr];rfl
 case mapUpdate T m k x =>
  obtain⟨vm,hm,j⟩:=zp h;obtain⟨vk,q,j⟩:=zp j;obtain⟨vx,hx,j⟩:=zp j;obtain⟨v,w',hr,aa⟩:=SatR.elim j;refine zbZ (fun c=>by simp) ?_ (hn _ _ aa);simp only[execOp,ha.eval hm,ha.eval q,ha.eval hx];rw[UJ,hr];rfl
 case insert T m k x =>
  obtain⟨vm,hm,j⟩:=zp h;obtain⟨vk,q,j⟩:=zp j;obtain⟨vx,hx,j⟩:=zp j;obtain⟨v,w',hr,aa⟩:=SatR.elim j;refine zbZ (fun c=>by simp) ?_ (hn _ _ aa);simp only[execOp,ha.eval hm,ha.eval q,ha.eval hx];rw[UJ,hr];rfl
 case mapEntry T m k =>
  obtain⟨vm,hm,j⟩:=zp h;obtain⟨vk,q,j⟩:=zp j;obtain⟨v,w',hr,aa⟩:=SatR.elim j;refine qf (fun c=>by simp) ?_ (hn _ _ aa);simp only[execOp,ha.eval hm,ha.eval q];rw[UJ,hr];rfl
 case entryStore T m k x =>
  obtain⟨vm,hm,j⟩:=zp h;obtain⟨vk,q,j⟩:=zp j;obtain⟨vx,hx,j⟩:=zp j;obtain⟨v,w',hr,aa⟩:=SatR.elim j;refine zbZ (fun c=>by simp) ?_ (hn _ _ aa);simp only[execOp,ha.eval hm,ha.eval q,ha.eval hx];rw[UJ,hr];rfl
 case range T x =>
  obtain⟨vx,hx,j⟩:=zp h;obtain⟨v,w',hr,q⟩:=SatR.elim j;refine qf (fun c=>by simp) ?_ (hn _ _ q);simp only[execOp,ha.eval hx];rw[UJ,hr];rfl
 case next it s =>
  obtain⟨vx,hx,j⟩:=zp h;obtain⟨v,w',hr,q⟩:=SatR.elim j;refine qf (fun c=>by simp) ?_ (hn _ _ q);simp only[execOp,ha.eval hx];rw[UJ,hr];rfl
 case entry it =>
  obtain⟨vx,hx,j⟩:=zp h;obtain⟨v,w',hr,q⟩:=SatR.elim j;refine qf (fun c=>by simp) ?_ (hn _ _ q);simp only[execOp,ha.eval hx];rw[UJ,hr];rfl
 case typeAssert x T y ok =>
  obtain⟨vx,hx,j⟩:=zp h;obtain⟨v,w',hr,q⟩:=SatR.elim j;refine qf (fun c=>by simp) ?_ (hn _ _ q);simp only[execOp,ha.eval hx];rw[UJ,hr];rfl
 case nilCheck x =>
  obtain⟨vx,hx,j⟩:=zp h;obtain⟨nx,w',hr,q⟩:=SatR.elim j
  split at q
  ·refine qf (fun c=>by simp) ?_ (hn _ _ q);simp only[execOp,ha.eval hx];simpa only[execOp] using hr
  ·exact q.elim
 case panic x =>
  obtain⟨vx,hx,u,w',hr,q⟩:=zp h;refine zfy (fun c=>by simp) ?_ (hp _ _ q);simp only[execOp,ha.eval hx];rw[UJ,hr];rfl
 case call c =>
  obtain⟨au,ae,ab⟩:=c;obtain⟨vs,j,al⟩:=zaw (S:=S) h;have ev:ae.map a.eval=vs.toArray:=by rw[<- al a ha,<- KX]
  dsimp only at j
  split at j
  ·rename_i f;obtain⟨vf,hf,j⟩:=zp j;unfold zlZ at j
   split at j
   ·rename_i g first t
    split at j
    ·rename_i ac;simp only[jh,bAT,US,UT] at ac;refine zde (fun c=>by simp) ?_ j hn hp;have e2:first++vs.toArray++t=(first.toList++vs++t.toList).toArray:=by
      rw[<- KW];simp
     simp only[execOp,resolve,ev,ha.eval hf,Deferred.ofValue,UJ,UK,KT,invoke,e2];exact hS.call g ac.1.1 ac.1.2 ac.2 _ _
    ·exact j.elim
   ·rename_i l first t
    obtain⟨fn,an,ad,ap,hy,hR⟩:=j;have e2:first++vs.toArray=(first.toList++vs).toArray:=by
     rw[<- KW];simp
    have hr:(execOp a.eval ⟨dst,.call ⟨.value f,ae,ab⟩,am,az,ak,ai⟩).run S.P w = .ok (.round l fn an ad ap) w:=by
     simp only[execOp,resolve,ev,ha.eval hf,Deferred.ofValue,UJ,UK,KT,invoke,e2];exact hy
    unfold UponE;rw[hr];refine zbn (hR.mono fun e a2 he=>?_)
    cases e with
    | returned v=>exact hn _ _ he
    | panicked ch=>exact he.elim
    | outgrown=>exact he.elim
   ·rename_i fn first t _ _
    obtain⟨g,ah,hi,hc⟩:=j;refine zde (fun c=>by simp) ?_ hc hn hp;have e2:first++vs.toArray=(first.toList++vs).toArray:=by
     rw[<- KW];simp
    simp only[execOp,resolve,ev,ha.eval hf,Deferred.ofValue,UJ,UK,KT,e2];exact hi
   ·exact j.elim
  ·rename_i b;unfold zjP at j
   split at j
   case h_9 =>
    obtain⟨u,w',hr,q⟩:=j;refine zfy (fun c=>by simp) ?_ (hp _ _ q);simp only[execOp,resolve,ev,invoke,builtin,UJ,UK,KT,hr,Result.andThen_halt]
   case h_10=>exact j.elim
   all_goals
    obtain⟨v,w',hr,q⟩:=SatR.elim j;refine qf (fun c=>by simp) ?_ (hn _ _ q);simp only[execOp,resolve,ev,invoke,builtin,UJ,UK,KT,hr]
  ·rename_i r m;obtain⟨vr,ag,g,ah,hi,hc⟩:=zp j;refine zde (fun c=>by simp) ?_ hc hn hp;have hx:(#[vr]++vs.toArray).extract 1 (#[vr]++vs.toArray).size=vs.toArray:=by
    rw[<- KW];simp
   have h0:(#[vr]++vs.toArray)[0]?=some vr:=by simp
   simp only[execOp,resolve,ev,ha.eval ag,UJ,UK,KT,invoke,h0,hx];exact hi
end
def zds (τ:TT) (op:Op):Bool :=
 match op with
 | .move _ | .assign _ | .pick .. | .binOp .. | .unOp .. | .convert .. | .field .. | .index .. | .fieldAddr .. | .indexAddr .. | .slice .. | .extract .. | .makeFunc .. | .nilCheck _ | .load .. | .lookup .. | .build .. => true
 | .call c=>(match c.callee with
  | .builtin .len=>(match c.argTypes.toList with
   | [T]=>(match TT.get τ T with
    | some { kind := .map _ _,.. }=>false
    | _=>true)
   | _=>true)
  | _=>false)
 | _=>false
def zgT (i:Nat):List Nat->Bool
 | []=>false
 | k::r=>match Nat.beq k i with
  | true=>true
  | false=>zgT i r
def jf (op:Op):Bool:=match op with | .select .. | .defer .. | .go .. => false | _=>true
def PV (P:Program) (o:Oper) (a:Act) (w:Wd) (v:Value):Prop:=∀w2,(isN o.op=true\/Bw w w2)->(execOp a.eval o).run P w2 = .ok (.value v) w2
def PQ (QP:List PanicEntry->Wd->Prop):Exit->Act->Wd->Prop:=fun ex _ w=>match ex with
 | .panic ch=>QP ch w
 | _=>False
def qY (S:Sig) (X:List Nat) (n:Nat) (QP:List PanicEntry->Wd->Prop) (ops:Array Oper) (i:Nat) (K:Act->Wd->Prop) (a:Act) (w:Wd):Prop :=
 match ops[i]? with
 | none=>K a w
 | some o=>if Region.wanted o (yielded ops a.tmps) then
   (if zds S.τ o.op then ∃v,PV S.P o a w v/\K (a.put o.dst v) w else UponE S n o a w (fun a' w'=>(zgT i X=false->Bw w w')/\K a' w') (PQ QP))
  else K (a.put o.dst undef) w
def zgc (S:Sig) (X:List Nat) (n:Nat) (QP:List PanicEntry->Wd->Prop) (ops:Array Oper) (K:Act->Wd->Prop):List Nat->Act->Wd->Prop
 | [],a,w=>K a w
 | i::r,a,w=>qY S X n QP ops i (zgc S X n QP ops K r) a w
section
variable{S:Sig}{X:List Nat}{n:Nat}{QP:List PanicEntry->Wd->Prop}{ops:Array Oper}
theorem zdf{o:Oper}{a a':Act}{w:Wd}{next next':Act->Wd->Prop}(he:execOp a'.eval o=execOp a.eval o)
  (hn:∀u w',next (a'.put o.dst u) w'->next' (a.put o.dst u) w') (h:UponE S n o a' w next (PQ QP)):UponE S n o a w next' (PQ QP):=by
 unfold UponE at *;rw[he] at h
 split at h
 ·exact hn _ _ h
 ·exact hn _ _ h
 ·exact CallsIn.mono h fun e b he=>by cases e <;> first | exact hn _ _ he | exact he
 ·exact RoundIn.mono h fun e b he=>by cases e <;> first | exact hn _ _ he | exact he
 ·exact h
 ·exact h
theorem zdi{i:Nat}{K K':Act->Wd->Prop}{a:Act}{w:Wd}(h:∀a w,K a w->K' a w)(hh:qY S X n QP ops i K a w):qY S X n QP ops i K' a w:=by
 unfold qY at *
 split
 ·rename_i c;simp only[c] at hh;exact h _ _ hh
 ·rename_i o c;simp only[c] at hh
  split
  ·rename_i b;simp only[b,Gb] at hh
   split
   ·rename_i d;simp only[d,Gb] at hh;obtain⟨v,g,f⟩:=hh;exact⟨v,g,h _ _ f⟩
   ·rename_i d;simp only[d,Kn,UZ] at hh;exact zdf rfl (fun u j e=>⟨e.1,h _ _ e.2⟩) hh
  ·rename_i b;simp only[b] at hh;exact h _ _ hh
structure Indep (S:Sig) (X:List Nat) (ops:Array Oper) (k i:Nat):Prop where
 h:∀ok oi,ops[k]?=some ok->ops[i]?=some oi->ok.apart ops oi=true/\zds S.τ ok.op=true/\jf ok.op=true/\jf oi.op=true/\(zds S.τ oi.op=true\/zgT i X=false\/isN ok.op=true)
theorem zez{op:Op}(h:jf op=true):∀cs b,op ≠ .select cs b:=fun cs b e=>by subst e;simp[jf] at h
theorem zai{op:Op}(h:jf op=true):∀c,op ≠ .defer c:=fun c e=>by subst e;simp[jf] at h
theorem PV.below{P:Program}{o:Oper}{a:Act}{w w':Wd}{v:Value}(h:PV P o a w v)(hb:isN o.op=true\/Bw w w'):PV P o a w' v :=
 fun c b=>h c (Or.elim hb (fun hb => .inl hb) fun hb=>b.imp id (fun b=>(zst hb b)))
theorem zdh{k i:Nat}(hk:Indep S X ops k i){K:Act->Wd->Prop}{a:Act}{w:Wd}(h:qY S X n QP ops k (qY S X n QP ops i K) a w):qY S X n QP ops i (qY S X n QP ops k K) a w:=by
 cases hok:ops[k]? with
 | none =>
  have e:∀K',qY S X n QP ops k K'=K':=fun K'=>by funext a w;simp[qY,hok]
  rw[e] at h ⊢;exact h
 | some ok =>
  cases hoi:ops[i]? with
  | none =>
   have e:∀K',qY S X n QP ops i K'=K':=fun K'=>by funext a w;simp[qY,hoi]
   rw[e] at h;rw[e];exact h
  | some oi =>
   obtain⟨q,hp,p,m,hx⟩:=hk.h ok oi hok hoi;obtain⟨x,r,h3⟩:=Oper.apart_spec q;have d:∀v,((Region.wanted ok (yielded ops a.tmps)=true/\PV S.P ok a w v)\/(Region.wanted ok (yielded ops a.tmps)=false/\v=undef)) ->
     qY S X n QP ops i K (a.put ok.dst v) w->qY S X n QP ops i (qY S X n QP ops k K) a w:=by
    intro v o h;have b:∀u l,(isN ok.op=true\/Bw w l)->K ((a.put ok.dst v).put oi.dst u) l->qY S X n QP ops k K (a.put oi.dst u) l:=by
     intro u l y g;unfold qY;simp only[hok,hp,Gb];rw[wanted_put ok a oi.dst u h3];rw[Act.put_comm a v u r] at g;rcases o with⟨f,t⟩ | ⟨f,rfl⟩
     ·simp only[f,Gb];refine⟨v,fun z r=>?_,g⟩;rw[execOp_put ok (zez p) a oi.dst u h3];exact(t.below y) z r
     ·simp only[f];exact g
    unfold qY at h ⊢;simp only[hoi] at h ⊢;rw[wanted_put oi a ok.dst v x] at h
    split
    ·rename_i j;simp only[j,Gb] at h
     split
     ·rename_i c;simp only[c,Gb] at h;obtain⟨u,hu,g⟩:=h;refine⟨u,fun z y=>?_,b u w (.inr (UR _ _)) g⟩;have:=hu z y
      rwa [execOp_put oi (zez m) a ok.dst v x] at this
     ·rename_i c;simp only[c,Kn,UZ] at h;exact zdf (execOp_put oi (zez m) a ok.dst v x) (fun u l s=>⟨s.1,b u l ((hx.resolve_left c).elim (fun hm => .inr (s.1 hm)) .inl) s.2⟩) h
    ·rename_i j;simp only[j] at h;exact b undef w (.inr (UR _ _)) h
   have h':=h;unfold qY at h;simp only[hok,hp,Gb] at h
   cases f:Region.wanted ok (yielded ops a.tmps) with
   | true =>
    simp only[f,Gb] at h;obtain⟨v,o,g⟩:=h;exact d v (.inl ⟨f,o⟩) g
   | false =>
    simp only[f] at h;exact d undef (.inr ⟨f,rfl⟩) h
theorem ze3{K:Act->Wd->Prop}{i:Nat}:∀(L:List Nat),L.Nodup->i∈L->(∀k,[k,i].Sublist L->Indep S X ops k i)->∀(a:Act) (w:Wd),zgc S X n QP ops K L a w ->
  qY S X n QP ops i (zgc S X n QP ops K (L.filter (· ≠ i))) a w
 | [],_,hi,_,_,_,_=>by simp at hi
 | k::r,hn,hi,hind,a,w,h=>by
  obtain⟨f,o⟩:=QK.1 hn;by_cases b:k=i
  ·subst b;have e:(k::r).filter (· ≠ k)=r:=by
    rw[Qe];simp only[ne_eq,KU,UL,Kn,UZ];exact List.filter_eq_self.2 fun x j=>by simp;rintro rfl;exact f j
   rw[e];exact h
  ·have c:i∈r:=by
    cases hi with
    | head=>exact Ge rfl b
    | tail _ h=>exact h
   have e:(k::r).filter (· ≠ i)=k::r.filter (· ≠ i):=by
    rw[Qe];simp[b]
   rw[e];have d:Indep S X ops k i:=hind k (List.Sublist.cons_cons k (List.singleton_sublist.2 c));have m:qY S X n QP ops k (qY S X n QP ops i (zgc S X n QP ops K (r.filter (· ≠ i)))) a w :=
    zdi (fun a w l=>ze3 r o c (fun p g=>hind p (g.cons k)) a w l) h
   exact zdh d m
def zdJ (ops:Array Oper):Nat->Nat->Nat->Bool
 | 0,_,_=>false
 | f+1,k,i=>match ops[i]? with
  | some o=>o.after.toList.any fun e=>Region.binds .any e&&(Nat.beq e.on k||(Nat.blt k e.on&&zdJ ops f k e.on))
  | none=>false
theorem zb0{L:Array Bool}(hc:∀j o,L.getD j false=true->ops[j]?=some o->∀e∈o.after,Region.binds .any e=true->L.getD e.on false=true) :
  ∀(f k i:Nat) (o:Oper),ops[i]?=some o->(∀e∈o.after,Region.binds .any e=true->L.getD e.on false=true)->zdJ ops f k i=true->L.getD k false=true
 | 0,_,_,_,_,_,h=>by simp [zdJ] at h
 | f+1,k,i,o,ho,hl,h=>by
  simp only[zdJ,ho,Qb,bAT,Qx,Array.mem_toList_iff] at h;obtain⟨e,c,d,h⟩:=h;rcases h with h | ⟨_,h⟩
  ·have:=JM h;subst this;exact hl e c d
  ·cases hj:ops[e.on]? with
   | none=>cases f <;> simp [zdJ,hj] at h
   | some oj=>exact zb0 hc f k e.on oj hj (fun g a b=>hc e.on oj (hl e c d) hj g a b) h
structure OrdOk (S:Sig) (X:List Nat) (ops:Array Oper) (L:List Nat):Prop where
 nodup:L.Nodup
 mem:∀i,i∈L↔i<ops.size
 pair:∀k i,[k,i].Sublist L->(∃f,zdJ ops f k i=true)\/Indep S X ops k i
 topo:∀i o e,ops[i]?=some o->e∈o.after->Region.binds .any e=true->[e.on,i].Sublist L
theorem zi6{x y:Nat}(hne:x≠y):∀{L:List Nat},L.Nodup->[x,y].Sublist L->[y,x].Sublist L->False
 | [],_,h,_=>by cases h
 | z::r,hn,h,h'=>by
  obtain⟨a,b⟩:=QK.1 hn
  cases h with
  | cons _ h =>
   cases h' with
   | cons _ h'=>exact zi6 hne b h h'
   | cons_cons _ h'=>exact a (h.subset (by simp))
  | cons_cons _ h =>
   cases h' with
   | cons _ h'=>exact a (h'.subset (by simp))
   | cons_cons _ h'=>exact hne rfl
theorem zpD{o:Oper}{a:Act}{w:Wd}{next:Act->Wd->Prop}{Q:Exit->Act->Wd->Prop}(hQ:∀ch w,QP ch w->Q (.panic ch) a w)(h:UponE S n o a w next (PQ QP)):UponE S n o a w next Q:=by
 unfold UponE at *
 split at h
 ·exact h
 ·exact h
 ·exact CallsIn.mono h fun e c b=>by cases e <;> first | exact hQ _ _ b | exact b
 ·exact RoundIn.mono h fun e c b=>by cases e <;> first | exact hQ _ _ b | exact b
 ·exact hQ _ _ h
 ·exact h
theorem zbz{Q:Exit->Act->Wd->Prop}{i:Nat}{o:Oper}{K K':Act->Wd->Prop}{a:Act}{w:Wd}(hsel:jf o.op=true)(ho:ops[i]?=some o)
  (hQ:∀ch w,QP ch w->Q (.panic ch) a w) (hnext:∀u w,K (a.put o.dst u) w->K' (a.put o.dst u) w) (h2:qY S X n QP ops i K a w):wpOpIn (FR S.r) n S.P ops Q i K' a w:=by
 unfold wpOpIn;unfold qY at h2;simp only[ho] at h2 ⊢
 split
 ·rename_i b;simp only[b,Gb] at h2
  split at h2
  ·obtain⟨v,e,c⟩:=h2;exact(qf (S:=S) (Q:=Q) (zai hsel) (e w (.inr (UR _ _))) (hnext _ _ c)).wpIn (zai hsel)
  ·have d:UponE S n o a w K' (PQ QP):=zdf rfl (fun u g f=>hnext _ _ f.2) h2;exact(zpD hQ d).wpIn (zai hsel)
 ·rename_i b;simp only[b] at h2;exact⟨fun _ _=>trivial,hnext _ _ h2⟩
theorem zfc{Q:Exit->Act->Wd->Prop}{I:Act->Prop}(hI:∀a dst v,I a->I (a.put dst v))(hQ:∀ch a w,I a->QP ch w->Q (.panic ch) a w)(hS:∀o,o∈ops->jf o.op=true){L0:List Nat}(hO:OrdOk S X ops L0) :
  ∀(m:Nat) (L:List Nat) (listed:Array Bool) (a:Act) (w:Wd),L.length=m->L.Sublist L0->listed.size=ops.size->(∀i,i∈L↔(i<ops.size/\listed.getD i false=false)) ->
   (∀j o,listed.getD j false=true->ops[j]?=some o->∀e∈o.after,Region.binds .any e=true->listed.getD e.on false=true) ->
   I a->zgc S X n QP ops (fun a w=>Q .normal a w) L a w->wpAnyIn (FR S.r) n S.P .any ops Q m listed a w
 | 0,L,listed,a,w,hm,_,hsz,hmem,_,_,h=>by
  have hL:L=[]:=Jd hm;subst hL;refine⟨?_,h⟩;rw[List.eq_nil_iff_forall_not_mem];intro i hi;obtain⟨hl,o,s,_⟩:=mem_ready.1 hi;have hlt:i<ops.size:=(Ji.1 s).1;have:i∈([]:List Nat):=(hmem i).2 ⟨hlt,by
   have aa:i<listed.size:=by omega
   simp[aa] at hl ⊢;exact hl⟩
  simp at this
 | m+1,L,listed,a,w,hm,hsub,hsz,hmem,hcl,q,h=>by
  have ae:L.Nodup:=hO.nodup.sublist hsub;have t:∀i,i<ops.size->(listed.getD i true=false↔listed.getD i false=false):=fun i hi=>by
   have aa:i<listed.size:=by omega
   simp[aa]
  have l:∀i,i∈Region.ready .any ops listed->i∈L:=fun i hi=>by
   obtain⟨hl,o,s,_⟩:=mem_ready.1 hi;have hlt:i<ops.size:=(Ji.1 s).1;exact(hmem i).2 ⟨hlt,(t i hlt).1 hl⟩
  refine⟨fun h0=>?_,fun i hi=>?_⟩
  ·
   exfalso
   cases L with
   | nil=>simp at hm
   | cons i r =>
    have p:=(hmem i).1 Ku;have:i∈Region.ready .any ops listed:=by
     refine mem_ready.2 ⟨(t i p.1).2 p.2,ops[i],Jk p.1,fun e he hb=>?_⟩;have ht:=hO.topo i _ e (Jk p.1) he hb
     cases hle:listed.getD e.on false with
     | true=>rfl
     | false =>
      exfalso
      have ah:e.on<ops.size:=(hO.mem e.on).1 (ht.subset (by simp));have ag:e.on∈i::r:=(hmem e.on).2 ⟨ah,hle⟩;have af:e.on≠i:=fun he=>by
       have:=hO.nodup.sublist ht;simp[he] at this
      have ai:e.on∈r:=by
       cases ag with
       | head=>exact Ge rfl af
       | tail _ h=>exact h
      have h1:[i,e.on].Sublist L0:=(List.Sublist.cons_cons i (List.singleton_sublist.2 ai)).trans hsub;exact(zi6 af hO.nodup ht h1).elim
    rw[h0] at this;simp at this
  ·have ad:=l i hi;obtain⟨hl,o,s,y⟩:=mem_ready.1 hi;have hlt:i<ops.size:=(Ji.1 s).1;have g:∀k,[k,i].Sublist L->Indep S X ops k i:=fun k hs=>by
    rcases hO.pair k i (hs.trans hsub) with⟨f,hf⟩ | g
    ·exfalso
     have hk:k∈L:=hs.subset (by simp);have h1:=((hmem k).1 hk).2;have h2:=zb0 hcl f k i o s y hf;rw[h1] at h2;simp at h2
    ·exact g
   have h2:=ze3 L ae ad g a w h;have z:∀a w,I a->zgc S X n QP ops (fun a w=>Q .normal a w) (L.filter (· ≠ i)) a w->wpAnyIn (FR S.r) n S.P .any ops Q m (listed.setIfInBounds i true) a w:=fun a w q hh=>by
    refine zfc hI hQ hS hO m _ _ a w ?_ (List.filter_sublist.trans hsub) (by simpa using hsz) ?_ ?_ q hh
    ·have:(L.filter (· ≠ i))=L.erase i:=by rw[ae.erase_eq_filter];exact KJ fun x _=>by by_cases h:x=i <;> simp[h]
     rw[this,List.length_erase_of_mem ad];omega
    ·intro j;rw[QI,hmem j];by_cases b:j=i
     ·subst b;simp[hsz,hlt]
     ·have ac:¬i=j:=fun e=>b e.symm;simp[b,ac]
    ·intro j oj hj ab e he hb;by_cases b:j=i
     ·subst b;rw[s] at ab;cases ab;have:=y e he hb;by_cases c:e.on=j
      ·simp[c,hsz,hlt]
      ·have d:¬j=e.on:=fun e=>c e.symm;simpa [Jf,d] using this
     ·have ac:¬i=j:=fun e=>b e.symm;have aj:listed.getD j false=true:=(by simpa [Jf,ac] using hj);have:=hcl j oj aj ab e he hb;by_cases c:e.on=i
      ·simp[c,hsz,hlt]
      ·have d:¬i=e.on:=fun e=>c e.symm;simpa [Jf,d] using this
   exact zbz (hS o (JD s)) s (fun ch w=>hQ ch a w q) (fun u w=>z _ w (hI _ _ _ q)) h2
inductive OT where
 | nil
 | op (i:Nat) (t:OT)
 | alt (a b:OT)
def zcg (S:Sig) (X:List Nat) (n:Nat) (QP:List PanicEntry->Wd->Prop) (ops:Array Oper) (K:Act->Wd->Prop):OT->Act->Wd->Prop
 | .nil,a,w=>K a w
 | .op i t,a,w=>qY S X n QP ops i (zcg S X n QP ops K t) a w
 | .alt x y,a,w=>zcg S X n QP ops K x a w/\zcg S X n QP ops K y a w
def OT.first (ind:Nat->Nat->Bool) (i:Nat):OT->Option OT
 | .nil=>none
 | .op k t=>if k=i then some t else if ind k i=true then (OT.first ind i t).map (.op k) else none
 | .alt x y=>match OT.first ind i x with
  | some x'=>some x'
  | none=>OT.first ind i y
theorem zbl{K:Act->Wd->Prop}{i:Nat}{ind:Nat->Nat->Bool}(hind:∀k,ind k i=true->Indep S X ops k i):∀(T T':OT),OT.first ind i T=some T'->∀(a:Act) (w:Wd),zcg S X n QP ops K T a w ->
  qY S X n QP ops i (zcg S X n QP ops K T') a w
 | .nil,_,h,_,_,_=>by simp [OT.first] at h
 | .op k t,T',h,a,w,b=>by
  simp only[OT.first] at h
  split at h
  ·rename_i e;subst e
   cases h
   exact b
  ·split at h
   ·rename_i f;obtain⟨d,c,rfl⟩:=Option.map_eq_some_iff.1 h;exact zdh (hind k f) (zdi (fun a w b=>zbl hind t d c a w b) b)
   ·cases h
 | .alt x y,T',h,a,w,b=>by
  simp only[OT.first] at h
  split at h
  ·rename_i u g;simp only[KS] at h;subst h;exact zbl hind x u g a w b.1
  ·exact zbl hind y T' h a w b.2
def zkR (ind:Nat->Nat->Bool) (ops:Array Oper):Nat->Array Bool->OT->Bool
 | 0,listed,T=>(Region.ready .any ops listed).isEmpty&&(match T with | .nil=>true | _=>false)
 | m+1,listed,T => !(Region.ready .any ops listed).isEmpty&&(Region.ready .any ops listed).all fun i =>
   match OT.first ind i T with
   | some T'=>zkR ind ops m (listed.setIfInBounds i true) T'
   | none=>false
theorem zfb{Q:Exit->Act->Wd->Prop}{I:Act->Prop}(hI:∀a dst v,I a->I (a.put dst v))(hQ:∀ch a w,I a->QP ch w->Q (.panic ch) a w)(hS:∀o,o∈ops->jf o.op=true){ind:Nat->Nat->Bool}(hind:∀k i,ind k i=true->Indep S X ops k i) :
  ∀(m:Nat) (listed:Array Bool) (T:OT) (a:Act) (w:Wd),zkR ind ops m listed T=true ->
   I a->zcg S X n QP ops (fun a w=>Q .normal a w) T a w->wpAnyIn (FR S.r) n S.P .any ops Q m listed a w
 | 0,listed,T,a,w,hc,_,h=>by
  simp only[zkR,bAT,Qi] at hc;obtain⟨p,e⟩:=hc
  split at e
  ·exact⟨p,h⟩
  ·cases e
 | m+1,listed,T,a,w,hc,b,h=>by
  simp only[zkR,bAT,KC,Jp,Qa] at hc;refine⟨fun s=>Ge s hc.1,fun i g=>?_⟩;obtain⟨_,o,j,_⟩:=mem_ready.1 g;have d:=hc.2 i g
  split at d
  ·rename_i T' f;have e:=zbl (fun k l=>hind k i l) T T' f a w h;have c:∀a w,I a->zcg S X n QP ops (fun a w=>Q .normal a w) T' a w->wpAnyIn (FR S.r) n S.P .any ops Q m (listed.setIfInBounds i true) a w:=fun a w b q =>
    zfb hI hQ hS hind m _ T' a w d b q
   exact zbz (hS o (JD j)) j (fun ch w=>hQ ch a w b) (fun u w=>c _ w (hI _ _ _ b)) e
  ·cases d
end
def OT.firsts (ind:Nat->Nat->Bool) (i:Nat):OT->List OT
 | .nil=>[]
 | .op k t=>if k=i then [t] else if ind k i=true then (OT.firsts ind i t).map (.op k) else []
 | .alt x y=>OT.firsts ind i x++OT.firsts ind i y
def zjF (ind:Nat->Nat->Bool) (ops:Array Oper):Nat->Array Bool->OT->Bool
 | 0,listed,T=>(Region.ready .any ops listed).isEmpty&&(match T with | .nil=>true | _=>false)
 | m+1,listed,T => !(Region.ready .any ops listed).isEmpty&&(Region.ready .any ops listed).all fun i =>
   (OT.firsts ind i T).any fun T'=>zjF ind ops m (listed.setIfInBounds i true) T'
section
variable{S:Sig}{X:List Nat}{n:Nat}{QP:List PanicEntry->Wd->Prop}{ops:Array Oper}
theorem zaV{K:Act->Wd->Prop}{i:Nat}{ind:Nat->Nat->Bool}(hind:∀k,ind k i=true->Indep S X ops k i):∀(T T':OT),T'∈OT.firsts ind i T->∀(a:Act) (w:Wd),zcg S X n QP ops K T a w ->
  qY S X n QP ops i (zcg S X n QP ops K T') a w
 | .nil,_,h,_,_,_=>by simp [OT.firsts] at h
 | .op k t,T',h,a,w,b=>by
  simp only[OT.firsts] at h
  split at h
  ·rename_i e;subst e;rw[Kv] at h;subst h;exact b
  ·split at h
   ·rename_i f;obtain⟨d,c,rfl⟩:=Uz.1 h;exact zdh (hind k f) (zdi (fun a w b=>zaV hind t d c a w b) b)
   ·cases h
 | .alt x y,T',h,a,w,b=>by
  simp only[OT.firsts,QH] at h;rcases h with h | h
  ·exact zaV hind x T' h a w b.1
  ·exact zaV hind y T' h a w b.2
theorem zek{Q:Exit->Act->Wd->Prop}{I:Act->Prop}(hI:∀a dst v,I a->I (a.put dst v))(hQ:∀ch a w,I a->QP ch w->Q (.panic ch) a w)(hS:∀o,o∈ops->jf o.op=true){ind:Nat->Nat->Bool}(hind:∀k i,ind k i=true->Indep S X ops k i) :
  ∀(m:Nat) (listed:Array Bool) (T:OT) (a:Act) (w:Wd),zjF ind ops m listed T=true ->
   I a->zcg S X n QP ops (fun a w=>Q .normal a w) T a w->wpAnyIn (FR S.r) n S.P .any ops Q m listed a w
 | 0,listed,T,a,w,hc,_,h=>by
  simp only[zjF,bAT,Qi] at hc;obtain⟨p,e⟩:=hc
  split at e
  ·exact⟨p,h⟩
  ·cases e
 | m+1,listed,T,a,w,hc,c,h=>by
  simp only[zjF,bAT,KC,Jp,Qa] at hc;refine⟨fun s=>Ge s hc.1,fun i g=>?_⟩;obtain⟨_,o,j,_⟩:=mem_ready.1 g;have b:=hc.2 i g;rw[Qb] at b;obtain⟨T',f,b⟩:=b;have e:=zaV (fun k l=>hind k i l) T T' f a w h;have d:∀a w,I a->zcg S X n QP ops (fun a w=>Q .normal a w) T' a w->wpAnyIn (FR S.r) n S.P .any ops Q m (listed.setIfInBounds i true) a w:=fun a w c q =>
   zek hI hQ hS hind m _ T' a w b c q
  exact zbz (hS o (JD j)) j (fun ch w=>hQ ch a w c) (fun u w=>d _ w (hI _ _ _ c)) e
end
def zqj (all:List Oper) (i:Nat):Bool:=all.any fun o=>match o.guard with | some (j,_)=>Nat.beq j i | none=>false
def zrI (g:Bool) (v:Value) (K:Value->Prop):Prop :=
 match g with
 | true=>(match v with
  | .bool b=>Br b (K (.bool true)) (K (.bool false))
  | v=>K v)
 | false=>K v
def zf5:List Oper->Nat->Option Oper
 | [],_=>none
 | o::_,0=>some o
 | _::r,i+1=>zf5 r i
def zrZ (all:List Oper) (E:Env) (j:Nat):Option (Option Bool) :=
 match zf5 all j with
 | some o=>(match o.dst with
  | some d=>(match Env.find E d with
   | some (.bool b)=>some (some b)
   | some (.tuple _)=>some none
   | _=>none)
  | none=>none)
 | none=>none
def zqq (all:List Oper) (i:Nat) (op:Op):Bool:=match op with | .move _=>zqj all i | _=>false
def zgt (S:Sig) (all:List Oper) (dr:Bool) (i:Nat) (o:Oper) (E:Env) (w:Wd) (K:Env->Wd->Prop) (KP:Env->List PanicEntry->Wd->Prop):Prop :=
 match zds S.τ o.op with
 | true=>zn3 S E o.op w fun v=>zrI (zqq all i o.op) v fun v=>K (zfe o.dst v E) w
 | false=>(match dr with
  | false=>zqK S E o w (fun v w'=>K (zfe o.dst v E) w') (KP E)
  | true=>zqK S E o w (fun v w'=>Bw w w'/\K (zfe o.dst v E) w') (KP E))
def jP (S:Sig) (all:List Oper) (dr:Bool) (i:Nat) (o:Oper) (E:Env) (w:Wd) (K:Env->Wd->Prop) (KP:Env->List PanicEntry->Wd->Prop):Prop :=
 match zlA S.n o.dst with
 | false=>False
 | true=>(match o.guard with
  | none=>zgt S all dr i o E w K KP
  | some (j,want)=>(match zrZ all E j with
   | some (some b)=>(match b,want with
    | true,true=>zgt S all dr i o E w K KP
    | false,false=>zgt S all dr i o E w K KP
    | true,false=>K (zfe o.dst undef E) w
    | false,true=>K (zfe o.dst undef E) w)
   | some none=>K (zfe o.dst undef E) w
   | none=>False))
def zcA (S:Sig) (all:List Oper):Nat->List Oper->Env->Wd->(Env->Wd->Prop)->(Env->List PanicEntry->Wd->Prop)->Prop
 | _,[],E,w,K,_=>K E w
 | i,o::r,E,w,K,KP=>jP S all false i o E w (fun E' w'=>zcA S all (i+1) r E' w' K KP) KP
def zkv (S:Sig) (all:List Oper) (X:List Nat) (QP:List PanicEntry->Wd->Prop):List Nat->Env->Wd->(Env->Wd->Prop)->Prop
 | [],E,w,K=>K E w
 | i::r,E,w,K=>(match zf5 all i with
  | some o=>jP S all (!zgT i X) i o E w (fun E' w'=>zkv S all X QP r E' w' K) (fun _ ch w=>QP ch w)
  | none=>False)
def zfZ (S:Sig) (all:List Oper) (X:List Nat) (QP:List PanicEntry->Wd->Prop):OT->Env->Wd->(Env->Wd->Prop)->Prop
 | .nil,E,w,K=>K E w
 | .op i t,E,w,K=>(match zf5 all i with
  | some o=>jP S all (!zgT i X) i o E w (fun E' w'=>zfZ S all X QP t E' w' K) (fun _ ch w=>QP ch w)
  | none=>False)
 | .alt x y,E,w,K=>zfZ S all X QP x E w K/\zfZ S all X QP y E w K
def zb8 (τ:TT) (X:List Nat) (ops:Array Oper) (k i:Nat):Bool :=
 match ops[k]?,ops[i]? with
 | some ok,some oi=>ok.apart ops oi&&zds τ ok.op&&jf ok.op&&jf oi.op&&(zds τ oi.op || !zgT i X||isN ok.op)
 | _,_=>false
def zhY (τ:TT) (X:List Nat) (ops:Array Oper):List Nat->Bool
 | []=>true
 | k::r=>r.all (fun i=>zdJ ops ops.size k i||zb8 τ X ops k i) && !r.contains k&&zhY τ X ops r
def zp3 (τ:TT) (X:List Nat) (ops:Array Oper) (L:List Nat):Bool :=
 Nat.beq L.length ops.size&&zhY τ X ops L&&L.all (fun i=>Nat.blt i ops.size)&&(List.range ops.size).all (fun i=>L.contains i) &&
 (List.range ops.size).all (fun i=>match ops[i]? with
  | some o=>o.after.all fun e => !Region.binds .any e||[e.on,i].isSublist L
  | none=>true)&&ops.all (fun o=>jf o.op)
theorem zcG{S:Sig}{X:List Nat}{ops:Array Oper}{k i:Nat}(hd:zb8 S.τ X ops k i=true):Indep S X ops k i:=by
 refine⟨fun ok d c b=>?_⟩;simp only[zb8,c,b,bAT,Qx,KC] at hd;exact⟨hd.1.1.1.1,hd.1.1.1.2,hd.1.1.2,hd.1.2,by rcases hd.2 with(h | h) | h;exact .inl h;exact .inr (.inl h);exact .inr (.inr h)⟩
theorem ze0{S:Sig}{X:List Nat}{ops:Array Oper}:∀{L:List Nat},zhY S.τ X ops L=true->L.Nodup/\∀k i,[k,i].Sublist L->(∃f,zdJ ops f k i=true)\/Indep S X ops k i
 | [],_=>⟨List.nodup_nil,fun _ _ h=>by cases h⟩
 | x::r,h=>by
  simp only[zhY,bAT,Qa,Qx,KC,JP,decide_eq_false_iff_not] at h;obtain⟨⟨m,j⟩,c⟩:=h;obtain⟨e,o⟩:=ze0 c;refine⟨QK.2 ⟨j,e⟩,fun k i b=>?_⟩
  cases b with
  | cons _ b=>exact o k i b
  | cons_cons _ b =>
   have l:i∈r:=List.singleton_sublist.1 b;rcases m i l with g | d
   ·exact .inl ⟨_,g⟩
   ·exact .inr (zcG d)
theorem zmx{S:Sig}{X:List Nat}{ops:Array Oper}{L:List Nat}(h:zp3 S.τ X ops L=true):L.length=ops.size/\OrdOk S X ops L/\∀o,o∈ops->jf o.op=true:=by
 simp only[zp3,bAT,Qa,UT,Ue,JP,dE] at h;obtain⟨⟨⟨⟨⟨r,p⟩,k⟩,d⟩,l⟩,c⟩:=h;obtain⟨g,f⟩:=ze0 p;refine⟨JM r,⟨g,fun i=>⟨k i,d i⟩,f,fun i o e b j q=>?_⟩,fun o b=>?_⟩
 ·have m:i<ops.size:=(Ji.1 b).1;have:=l i m;simp only[b,Jb] at this;have:=this e j;simp only[q,Ul,Uk] at this;exact List.isSublist_iff_sublist.1 this
 ·simp only[Jb] at c;exact c o b
theorem zdX:∀(l:List Oper) (i:Nat),zf5 l i=l[i]?
 | [],i=>by simp [zf5]
 | _::_,0=>rfl
 | _::r,i+1=>by simp only [zf5,Jr];exact zdX r i
section
variable{S:Sig}{n:Nat}{ops:Array Oper}{E:Env}{a:Act}{w:Wd}
theorem zcZ(ha:Agrees S a E){j:Nat}{r:Option Bool}(h:zrZ ops.toList E j=some r):yielded ops a.tmps j=r:=by
 unfold zrZ at h;rw[zdX] at h
 split at h
 ·rename_i o g
  split at h
  ·rename_i d f;have c:ops[j]?=some o:=by simpa using g
   split at h
   ·rename_i b e
    cases h
    have:=ha.val d _ e;simp[yielded,c,f,this]
   ·rename_i t e
    cases h
    have:=ha.val d _ e;simp[yielded,c,f,this]
   ·cases h
  ·cases h
 ·cases h
theorem zg6{g:Bool}{v:Value}{K:Value->Prop}(h:zrI g v K):K v:=by
 unfold zrI at h
 split at h
 ·split at h
  ·rename_i b
   cases b
   ·exact h.2 rfl
   ·exact h.1 rfl
  ·exact h
 ·exact h
theorem zmg(hS:SigOk S){i:Nat}{o:Oper}(ho:ops[i]?=some o)(hs:jf o.op=true){K:Env->Wd->Prop}{KP:Env->List PanicEntry->Wd->Prop}
  {next:Act->Wd->Prop} {Q:Exit->Act->Wd->Prop} (h:jP S ops.toList false i o E w K KP) (ha:Agrees S a E)
  (hn:∀E' a' w',Agrees S a' E'->K E' w'->next a' w') (hp:∀ch w',KP E ch w'->Q (.panic ch) a w') :
  wpOpIn (FR S.r) n S.P ops Q i next a w:=by
 unfold jP at h
 split at h
 ·exact h.elim
 ·rename_i k;have q:zgt S ops.toList false i o E w K KP->o.wpIn (FR S.r) n S.P a w next Q:=fun h=>by
   unfold zgt at h
   split at h
   ·obtain⟨v,g,s⟩:=zeZ hS h;exact(qf (S:=S) (n:=n) (zai hs) (s a ha w (.inr (UR _ _))) (hn _ _ _ (ha.put k v) (zg6 g))).wpIn (zai hs)
   ·exact(zdB hS h ha (fun v w' g=>hn _ _ _ (ha.put k v) g) hp).wpIn (zai hs)
  have p:K (zfe o.dst undef E) w->(∀f,o.about S.P w a.eval=some f->(FR S.r).fn f)/\next (a.put o.dst undef) w:=fun h=>⟨fun _ _=>trivial,hn _ _ _ (ha.put k undef) h⟩
  unfold wpOpIn;simp only[ho]
  split at h
  ·rename_i e;have:Region.wanted o (yielded ops a.tmps)=true:=by simp[Region.wanted,e]
   rw[Gd this];exact q h
  ·rename_i j c e
   split at h
   ·rename_i b d;have m:=zcZ ha d;have l:Region.wanted o (yielded ops a.tmps)=(b == c):=(by simp[Region.wanted,e,m]);rw[l]
    cases b <;> cases c <;> simp only[] at h <;> first | exact q h | exact p h
   ·rename_i d;have m:=zcZ ha d;have l:Region.wanted o (yielded ops a.tmps)=false:=(by simp[Region.wanted,e,m]);rw[l];exact p h
   ·exact h.elim
theorem zeX(hS:SigOk S){X:List Nat}{i:Nat}{o:Oper}(ho:ops[i]?=some o)(_hs:jf o.op=true){K:Env->Wd->Prop}
  {next:Act->Wd->Prop} {QP:List PanicEntry->Wd->Prop} (h:jP S ops.toList (!zgT i X) i o E w K (fun _ ch w=>QP ch w)) (ha:Agrees S a E)
  (hn:∀E' a' w',Agrees S a' E'->K E' w'->next a' w') :
  qY S X n QP ops i next a w:=by
 unfold jP at h
 split at h
 ·exact h.elim
 ·rename_i f;have s:zgt S ops.toList (!zgT i X) i o E w K (fun _ ch w=>QP ch w)->(if zds S.τ o.op=true then ∃v,PV S.P o a w v/\next (a.put o.dst v) w else UponE S n o a w (fun a' w'=>(zgT i X=false->Bw w w')/\next a' w') (PQ QP)):=fun h=>by
   unfold zgt at h
   split at h
   ·rename_i p;rw[Gd p];obtain⟨v,e,y⟩:=zeZ hS h;exact⟨v,fun u x=>y a ha u x,hn _ _ _ (ha.put f v) (zg6 e)⟩
   ·rename_i p;rw[Gc (by simp[p])]
    split at h
    ·rename_i t;have m:zgT i X=true:=(by simpa using t);exact zdB hS h ha (fun v w' e=>⟨fun r=>(by rw[m] at r;cases r),hn _ _ _ (ha.put f v) e⟩) (fun _ _ h=>h)
    ·exact zdB hS h ha (fun v w' e=>⟨fun _=>e.1,hn _ _ _ (ha.put f v) e.2⟩) (fun _ _ h=>h)
  have q:K (zfe o.dst undef E) w->next (a.put o.dst undef) w:=fun h=>hn _ _ _ (ha.put f undef) h
  unfold qY;simp only[ho]
  split at h
  ·rename_i g;have:Region.wanted o (yielded ops a.tmps)=true:=by simp[Region.wanted,g]
   rw[Gd this];exact s h
  ·rename_i j c g
   split at h
   ·rename_i b d;have l:=zcZ ha d;have k:Region.wanted o (yielded ops a.tmps)=(b == c):=(by simp[Region.wanted,g,l]);rw[k]
    cases b <;> cases c <;> simp only[] at h <;> first | exact s h | exact q h
   ·rename_i d;have l:=zcZ ha d;have k:Region.wanted o (yielded ops a.tmps)=false:=(by simp[Region.wanted,g,l]);rw[k];exact q h
   ·exact h.elim
end
section
variable{S:Sig}{n:Nat}
def zgU (S:Sig) (Q:Exit->Env->Wd->Prop):Exit->Act->Wd->Prop:=fun ex a w=>∃E,Agrees S a E/\Q ex E w
theorem zf1(hS:SigOk S){ops:Array Oper}(hsel:∀o∈ops,jf o.op=true){Q:Exit->Env->Wd->Prop} :
  ∀(r:List Oper) (i:Nat) (E:Env) (a:Act) (w:Wd),(∀k o,r[k]?=some o->ops[i+k]?=some o)->Agrees S a E ->
   zcA S ops.toList i r E w (fun E w=>Q .normal E w) (fun E ch w=>Q (.panic ch) E w) ->
   wpOpsIn (FR S.r) n S.P ops (zgU S Q) (List.range' i r.length) a w
 | [],i,E,a,w,_,ha,h=>by simp only [QE,List.range'_zero,wpOpsIn];exact⟨E,ha,h⟩
 | o::r,i,E,a,w,hr,ha,h=>by
  rw[Qj,List.range'_succ,wpOpsIn_cons];have e:ops[i]?=some o:=by simpa using hr 0 o rfl
  exact zmg hS e (hsel o (JD e)) h ha (fun E' g d c b=>zf1 hS hsel r (i+1) E' g d (fun k f b=>by have:=hr (k+1) f (by simpa using b);rwa [Us,UA 1 k]) c b) (fun ch d b=>⟨E,ha,b⟩)
theorem zf0(hS:SigOk S){X:List Nat}{QP:List PanicEntry->Wd->Prop}{ops:Array Oper}(hsel:∀o∈ops,jf o.op=true){K:Env->Wd->Prop} :
  ∀(L:List Nat) (E:Env) (a:Act) (w:Wd),Agrees S a E->zkv S ops.toList X QP L E w K ->
   zgc S X n QP ops (fun a w=>∃E,Agrees S a E/\K E w) L a w
 | [],E,_,_,ha,h=>⟨E,ha,h⟩
 | i::r,E,a,w,ha,h=>by
  simp only[zkv,zdX] at h
  split at h
  ·rename_i o g;have b:ops[i]?=some o:=by simpa using g
   exact zeX hS b (hsel o (JD b)) h ha (fun E' f d c e=>zf0 hS hsel r E' f d c e)
  ·exact h.elim
theorem zbc(hS:SigOk S){X:List Nat}{QP:List PanicEntry->Wd->Prop}{ops:Array Oper}(hsel:∀o∈ops,jf o.op=true){K:Env->Wd->Prop} :
  ∀(T:OT) (E:Env) (a:Act) (w:Wd),Agrees S a E->zfZ S ops.toList X QP T E w K ->
   zcg S X n QP ops (fun a w=>∃E,Agrees S a E/\K E w) T a w
 | .nil,E,_,_,ha,h=>⟨E,ha,h⟩
 | .op i t,E,a,w,ha,h=>by
  simp only[zfZ,zdX] at h
  split at h
  ·rename_i o g;have b:ops[i]?=some o:=by simpa using g
   exact zeX hS b (hsel o (JD b)) h ha (fun E' f d c e=>zbc hS hsel t E' f d c e)
  ·exact h.elim
 | .alt x y,E,a,w,ha,h=>⟨zbc hS hsel x E a w ha h.1,zbc hS hsel y E a w ha h.2⟩
def DrawE (S:Sig) (ops:Array Oper) (E:Env) (w:Wd) (K:Env->Wd->Prop) (QP:List PanicEntry->Wd->Prop):Prop :=
 (∃X L:List Nat,zp3 S.τ X ops L=true/\zkv S ops.toList X QP L E w.drew K) \/
 (∃(X:List Nat) (T:OT),(zkR (zb8 S.τ X ops) ops ops.size (Array.replicate ops.size false) T&&ops.all (fun o=>jf o.op))=true/\zfZ S ops.toList X QP T E w.drew K) \/
 (∃(X:List Nat) (T:OT),(zjF (zb8 S.τ X ops) ops ops.size (Array.replicate ops.size false) T&&ops.all (fun o=>jf o.op))=true/\zfZ S ops.toList X QP T E w.drew K)
theorem DrawE.ord{S:Sig}{ops:Array Oper}{E:Env}{w:Wd}{K:Env->Wd->Prop}{QP:List PanicEntry->Wd->Prop}(X L:List Nat)(h:zp3 S.τ X ops L=true)(k:zkv S ops.toList X QP L E w.drew K):DrawE S ops E w K QP :=
 .inl ⟨X,L,h,k⟩
def zpg (ops:List Oper):Bool:=ops.all fun o=>jf o.op
def zpo (body:Env->Wd->(Exit->Env->Wd->Prop)->Prop) (E:Env) (w:Wd) (Q:Exit->Env->Wd->Prop):Prop :=
 ∃(σ:Type) (env:σ->Env) (inv:σ->Wd->Prop) (μ:σ->Nat) (s0:σ),Cov E (env s0)/\inv s0 w /\
  ∀s w,inv s w->body (env s) w fun ex E' w'=>match ex with
   | .normal=>∃s',Cov E' (env s')/\inv s' w'/\μ s'<μ s
   | ex=>Q ex E' w'
def ziw (S:Sig) (f:Operand) (params:Array Tmp) (assign body:Code) (E:Env) (w:Wd) (Q:Exit->Env->Wd->Prop):Prop :=
 ∀a,Agrees S a E->(Code.rangeFunc f params assign body).wpIn (FR S.r) NN S.P (zgU S Q) a w
def wpE (S:Sig):Code->Env->Wd->(Exit->Env->Wd->Prop)->Prop
 | .skip,E,w,Q=>Q .normal E w
 | .region _ ops draw,E,w,Q=>(match draw with
  | false=>(match zpg ops.toList with
   | true=>zcA S ops.toList 0 ops.toList E w (fun E w=>Q .normal E w) (fun E ch w=>Q (.panic ch) E w)
   | false=>False)
  | true=>DrawE S ops E w (fun E w=>Q .normal E w) (fun ch w=>Q (.panic ch) ⟨[],E.ds⟩ w))
 | .seq x y,E,w,Q=>wpE S x E w fun ex E' w'=>match ex with
  | .normal=>wpE S y E' w' Q
  | ex=>Q ex E' w'
 | .cond c x y,E,w,Q=>(match opd E c with
  | some (.bool b)=>Br b (wpE S x E w Q) (wpE S y E w Q)
  | _=>False)
 | .block id x,E,w,Q=>wpE S x E w fun ex E' w'=>match ex with
  | .exit id'=>(match Nat.beq id' id with
   | true=>Q .normal E' w'
   | false=>Q (.exit id') E' w')
  | ex=>Q ex E' w'
 | .loop x,E,w,Q=>zpo (fun E w Q=>wpE S x E w Q) E w Q
 | .rangeFunc f ps ags x,E,w,Q=>ziw S f ps ags x E w Q
 | .exit id,E,w,Q=>Q (.exit id) E w
 | .scope _,_,_,_=>False
 | .label _,E,w,Q=>Q .normal E w
 | .goto l,E,w,Q=>Q (.goto l) E w
 | .ret,E,w,Q=>Q .ret E w
 | .refuse _,_,_,_=>False
theorem qx(hS:SigOk S):∀(c:Code) (E:Env) (a:Act) (w:Wd) (Q:Exit->Env->Wd->Prop),Agrees S a E->wpE S c E w Q->c.wpIn (FR S.r) NN S.P (zgU S Q) a w
 | .skip,E,a,w,Q,g,h=>wpIn_skip ⟨E,g,h⟩
 | .region id ops draw,E,a,w,Q,g,h=>by
  cases draw with
  | false =>
   simp only[wpE] at h
   split at h
   ·rename_i hs;refine wpIn_region ?_;rw[List.range_eq_range'];have ag:∀o∈ops,jf o.op=true:=fun o ho=>by
     simp only[zpg,Qa] at hs;exact hs o (Array.mem_toList_iff.2 ho)
    have:=zf1 (n:=NN) hS ag ops.toList 0 E a w (fun k o hk=>by simpa using hk) g h;simpa using this
   ·exact h.elim
  | true =>
   simp only[wpE] at h;refine wpIn_region_any hS.mixed ?_;have hI:∀(b:Act) (aa:Option Tmp) (v:Value),(b.tmps.size=S.n/\b.defers=E.ds)->((b.put aa v).tmps.size=S.n/\(b.put aa v).defers=E.ds):=fun b aa v u=>by
    cases aa with
    | none=>exact u
    | some d=>exact⟨by simp [Act.put,u.1],u.2⟩
   have hQ:∀ch (b:Act) w,(b.tmps.size=S.n/\b.defers=E.ds)->Q (.panic ch) ⟨[],E.ds⟩ w->zgU S Q (.panic ch) b w:=fun ch b w u hq=>⟨⟨[],E.ds⟩,⟨u.1,u.2,fun t v hv=>by simp[Env.find,VEnv.find] at hv⟩,hq⟩;have ad:a.tmps.size=S.n/\a.defers=E.ds:=⟨g.size,g.defers⟩;rcases h with⟨X,L,hL,h⟩ | ⟨X,T,hT,h⟩ | ⟨X,T,hT,h⟩
   ·obtain⟨ae,hO,hs⟩:=zmx hL;have h1:=zf0 (n:=NN) hS hs L E a w.drew g h;refine zfc (Q:=zgU S Q) hI hQ hs hO ops.size L (Array.replicate ops.size false) a w.drew ae (List.Sublist.refl _) (by simp) (fun i=>?_) (fun j o hj=>?_) ad h1
    ·rw[hO.mem i];refine⟨fun hi=>⟨hi,by simp[hi]⟩,fun hi=>hi.1⟩
    ·exfalso
     by_cases al:j<ops.size <;> simp[al] at hj
   ·simp only[bAT,Jb] at hT;exact zfb (Q:=zgU S Q) hI hQ hT.2 (fun k i h=>zcG h) ops.size _ T a w.drew hT.1 ad (zbc (n:=NN) hS hT.2 T E a w.drew g h)
   ·simp only[bAT,Jb] at hT;exact zek (Q:=zgU S Q) hI hQ hT.2 (fun k i h=>zcG h) ops.size _ T a w.drew hT.1 ad (zbc (n:=NN) hS hT.2 T E a w.drew g h)
 | .seq x y,E,a,w,Q,g,h=>by
  refine wpIn_seq (UW (qx hS x E a w _ g h) ?_);rintro ex a' w' ⟨E',q,hq⟩
  cases ex with
  | normal=>exact qx hS y E' a' w' Q q hq
  | _=>exact⟨E',q,hq⟩
 | .cond c x y,E,a,w,Q,g,h=>by
  simp only[wpE] at h
  split at h
  ·rename_i b u;refine wpIn_cond_split (g.eval u) (fun e=>qx hS x E a w Q g (h.1 e)) (fun e=>qx hS y E a w Q g (h.2 e))
  ·exact h.elim
 | .block id x,E,a,w,Q,g,h=>by
  refine wpIn_block (UW (qx hS x E a w _ g h) ?_);rintro ex a' w' ⟨E',q,hq⟩
  cases ex with
  | exit id' =>
   simp only[Exit.inBlock];dsimp only at hq
   split at hq
   ·rename_i u;rw[Gd (JM u)];exact⟨E',q,hq⟩
   ·rename_i u;rw[Gc (Nat.ne_of_beq_eq_false u)];exact⟨E',q,hq⟩
  | _=>exact⟨E',q,hq⟩
 | .loop x,E,a,w,Q,g,h=>by
  obtain⟨σ,z,inv,μ,s0,hc,hi,u⟩:=h;have af:∀m s a w,μ s=m->Agrees S a (z s)->inv s w->(Code.loop x).wpIn (FR S.r) NN S.P (zgU S Q) a w:=by
   intro m s a w hm g hi;refine wpIn_loop (fun a w=>∃s,Agrees S a (z s)/\inv s w) (fun a w=>leastOf (fun k=>∃s,Agrees S a (z s)/\inv s w/\μ s=k)) ⟨s,g,hi⟩ ?_;intro a w ⟨s1,ah,ai⟩;obtain⟨⟨s2,ak,aj,am⟩,_⟩:=leastOf_spec (p:=fun k=>∃s,Agrees S a (z s)/\inv s w/\μ s=k) ⟨_,s1,ah,ai,rfl⟩;refine UW (qx hS x (z s2) a w _ ak (u s2 w aj)) ?_;rintro ex a' w' ⟨E',q,hq⟩
   cases ex with
   | normal =>
    obtain⟨s',ac,ab,hlt⟩:=hq;refine⟨⟨s',q.cov ac,ab⟩,?_⟩;have:=(leastOf_spec (p:=fun k=>∃s,Agrees S a' (z s)/\inv s w'/\μ s=k) ⟨_,s',q.cov ac,ab,rfl⟩).2;rw[<- am];exact Kz (this _ ⟨s',q.cov ac,ab,rfl⟩) hlt
   | _=>exact⟨E',q,hq⟩
  exact af _ s0 a w rfl (g.cov hc) hi
 | .rangeFunc f ps ags x,E,a,w,Q,g,h=>h a g
 | .exit id,E,a,w,Q,g,h=>wpIn_exit ⟨E,g,h⟩
 | .scope _,_,_,_,_,_,h=>h.elim
 | .label _,E,a,w,Q,g,h=>wpIn_label ⟨E,g,h⟩
 | .goto l,E,a,w,Q,g,h=>wpIn_goto ⟨E,g,h⟩
 | .ret,E,a,w,Q,g,h=>wpIn_ret ⟨E,g,h⟩
 | .refuse _,_,_,_,_,_,h=>h.elim
def zhU (E:Env) (w:Wd):(τ:TT)->List ResultVar->(List Value->Prop)->Prop
 | _,[],K=>K []
 | τ,.tmp t::r,K=>zW E (.tmp t) fun v=>zhU E w τ r fun vs=>K (v::vs)
 | τ,.cell t T::r,K=>zW E (.tmp t) fun va=>(match va with
  | .pointer (some p)=>(match TT.get τ T with
   | some { agg:=true,size:=sz,.. }=>∃us:List Value,us.length=sz/\zF w p us/\zhU E w τ r fun vs=>K (.agg us.toArray::vs)
   | some { agg:=false,.. }=>∃u,w.cell? p=some u/\zhU E w τ r fun vs=>K (u::vs)
   | none=>False)
  | _=>False)
def zf4:List Value->Value
 | [v]=>v
 | l => .tuple l.toArray
theorem zdQ{S:Sig}(hS:SigOk S){E:Env}{a:Act}{w:Wd}(ha:Agrees S a E):∀(l:List ResultVar) (K:List Value->Prop),zhU E w S.τ l K ->
  ∃vs,K vs/\(l.mapM fun | .tmp t=>pure (a.tmps.getD t undef) | .cell q t=>do loadVar t (<- asAddr (a.tmps.getD q undef)):Sem (List Value)).run S.P w = .ok vs w
 | [],K,h=>⟨[],h,rfl⟩
 | .tmp t::r,K,h=>by
  obtain⟨v,d,h⟩:=zp h;obtain⟨vs,b,c⟩:=zdQ hS ha r _ h;have:a.tmps.getD t undef=v:=ha.eval d;refine⟨_,b,?_⟩;simp only[Ud,UJ,UK,KT,this];rw[c];rfl
 | .cell q T::r,K,h=>by
  simp only[zhU] at h;replace h:=zp h;obtain⟨k,d,h⟩:=h;have i:a.tmps.getD q undef=k:=ha.eval d
  split at h
  ·rename_i p
   split at h
   ·rename_i m _ _ f;obtain⟨o,j,g,h⟩:=h;obtain⟨vs,b,c⟩:=zdQ hS ha r _ h;refine⟨_,b,?_⟩;have e:asAddr (a.tmps.getD q undef)=pure p:=(by rw[i];rfl);simp only[Ud,UJ,UK,KT,e,ze2 (hS.ty _ _ f) rfl j g];rw[c];rfl
   ·rename_i _ _ _ _ f;obtain⟨u,g,h⟩:=h;obtain⟨vs,b,c⟩:=zdQ hS ha r _ h;refine⟨_,b,?_⟩;have e:asAddr (a.tmps.getD q undef)=pure p:=(by rw[i];rfl);simp only[Ud,UJ,UK,KT,e,ze1 (hS.ty _ _ f) rfl g];rw[c];rfl
   ·exact h.elim
  ·exact h.elim
theorem ziQ{S:Sig}(hS:SigOk S){E:Env}{a:Act}{w:Wd}(ha:Agrees S a E){fn:Func}{K:Value->Prop}(h:zhU E w S.τ fn.results.toList fun vs=>K (zf4 vs)) :
  ∃v,K v/\(results fn a.tmps).run S.P w = .ok v w:=by
 obtain⟨vs,c,b⟩:=zdQ hS ha _ _ h;refine⟨_,c,?_⟩;unfold results;rw[UJ,Array.mapM_eq_mapM_toList,Sem.run_map];refine Eq.trans (UY (fun x=>Result.andThen (Result.andThen x _) _) b) ?_;simp only[KT,UK];congr 1
 match vs with
 | []=>simp [zf4]
 | [v]=>simp [zf4]
 | v::u::r=>simp [zf4]
def zh9:List Deferred->Wd->(Wd->Prop)->Prop
 | [],w,K=>K w
 | d::r,w,K=>∃b,d.target = .collected b/\w.heap[b]?=some (.deferred (some []))/\zh9 r (w.putObj b (.deferred none)) K
def zlq (S:Sig) (fn:Func) (R:Ending->Wd->Prop):Exit->Env->Wd->Prop
 | .normal,E,w=>zh9 E.ds w fun w'=>zhU E w' S.τ fn.results.toList fun vs=>R (.returned (zf4 vs)) w'
 | .ret,E,w=>zh9 E.ds w fun w'=>zhU E w' S.τ fn.results.toList fun vs=>R (.returned (zf4 vs)) w'
 | .panic ch,E,w=>E.ds=[]/\R (.panicked ch) w
 | _,_,_=>False
theorem zaq{S:Sig}(hS:SigOk S){fn:Func}{R:Ending->Wd->Prop}{a:Act}{E:Env}(ha:Agrees S a E):∀(ds:List Deferred) (w:Wd),
  (zh9 ds w fun w'=>zhU E w' S.τ fn.results.toList fun vs=>R (.returned (zf4 vs)) w')->LeavesInM (FR none) NN S.P fn a.tmps R ds .returning w
 | [],w,h=>by
  obtain⟨v,e,c⟩:=ziQ hS ha (K:=fun v=>R (.returned v) w) h;exact⟨v,c,e⟩
 | d::r,w,⟨b,hd,hb,h⟩=>⟨by simp,.inl ⟨b,_,hd,run_takeDeferred hb,zaq hS ha r _ h⟩⟩
def zdd:Nat->List Value->VEnv
 | _,[]=>[]
 | i,v::r=>(i,v)::zdd (i+1) r
theorem zdH:∀(l:List Value) (i t:Nat) (v:Value),VEnv.find (zdd i l) t=some v->i<=t/\l[t-i]?=some v
 | [],_,_,_,h=>by simp [zdd,VEnv.find] at h
 | u::r,i,t,v,h=>by
  simp only[zdd,VEnv.find] at h
  cases hb:Nat.beq i t with
  | true =>
   rw[hb] at h;have e:i=t:=JM hb;subst e;simp only[KS] at h;subst h;simp
  | false =>
   rw[hb] at h;obtain⟨c,b⟩:=zdH r (i+1) t v h;refine⟨by omega,?_⟩;have:t-i=(t-(i+1))+1:=by omega
   rw[this];simpa using b
theorem zk0{S:Sig}(hS:SigOk S){f:FuncId}{fn:Func}{c:Code}{args:List Value}{w:Wd}{R:Ending->Wd->Prop}
  (hf:S.P.funcs[f]?=some fn) (hb:fn.body=some c) (hn:fn.ntmps=S.n) (hle:args.length<=S.n) (hr:S.r=none)
  (h:wpE S c ⟨zdd 0 args,[]⟩ w (zlq S fn R)):Calls S.P f args.toArray w R:=by
 rw[<- callsIn_wide (n:=NN)];have j:FR none=Fence.wide:=rfl;rw[<- j];refine callsIn_of_wp_marks hf hb trivial ?_;have p:Agrees S { tmps:=args.toArray++Array.replicate (fn.ntmps-args.toArray.size) undef,defers:=[] } ⟨zdd 0 args,[]⟩:=by
  refine⟨?_,rfl,fun t v i=>?_⟩
  ·simp[hn];omega
  ·obtain⟨_,e⟩:=zdH _ _ _ _ i;simp only[UF] at e;have hlt:t<args.length:=(Jo.1 e).1;simp only[Array.getElem?_append,KQ,hlt,Gb];simpa using e
 have g:=qx hS c _ _ w _ p h;rw[hr] at g;refine UW g ?_;rintro o l q ⟨E',b,d⟩
 cases o with
 | normal=>have:=zaq hS b _ _ d;rw [<- b.defers] at this;exact this
 | ret=>have:=zaq hS b _ _ d;rw [<- b.defers] at this;exact this
 | panic ch =>
  obtain⟨k,m⟩:=d;show LeavesInM _ _ _ _ _ _ l.defers _ _;rw[b.defers,k];exact m
 | exit _=>exact d.elim
 | goto _=>exact d.elim
 | outgrown=>exact d.elim
end
theorem rb{a b:Bool}(h:a=b):Ending.returned (.bool a)=Ending.returned (.bool b):=by rw[h]
theorem ri{k:IntKind}{a b:Int}(h:a=b):Ending.returned (.int k a)=Ending.returned (.int k b):=by rw[h]
theorem zg{a:Int}(h : -9223372036854775808<=a/\a<=9223372036854775807):IntKind.i64.wrap a=a:=by
 unfold IntKind.wrap;simp only[IntKind.bits,IntKind.signed,Un,show((2:Int)^64)=18446744073709551616 from rfl,show((2:Int)^(64-1))=9223372036854775808 from rfl]
 split
 ·rename_i h2;have:=dT h2;omega
 ·rename_i h2;have h3:a%18446744073709551616<9223372036854775808:=by simpa using h2
  omega
theorem nxI{k:Nat}{K:Int->Prop}(h:(k:Int)+1<=9223372036854775807)(x:K ((k+1:Nat):Int)):∃m,IntKind.i64.wrap ((k:Int)+1)=m/\K m:=⟨_,(zg (by omega)).trans (by omega),x⟩
theorem zcQ{a:Int}(h:0<=a/\a<=255):IntKind.u8.wrap a=a:=by
 unfold IntKind.wrap;simp only[IntKind.bits,IntKind.signed,QZ,Kn,UZ];omega
theorem zsP(x:UInt8):(x.toNat:Int)<=255:=by have:=x.toNat_lt;omega
theorem qu(x:UInt8):IntKind.i64.wrap (x.toNat:Int)=(x.toNat:Int):=zg (by have:=zsP x;omega)
theorem qm{x y:UInt8}:((x.toNat:Int)=(y.toNat:Int))↔x=y :=
 ⟨fun h=>QW.1 (by omega),fun h=>by rw[h]⟩
def u8 (x:UInt8):Value := .int .u8 x.toNat
theorem jt{w:Wd}{b o:Nat}{v:Value}{vs:List Value}(h:zF w ⟨b,o,none⟩ (v::vs)):w.cell? ⟨b,o,none⟩=some v:=by
 have:=h 0 v rfl
 rwa [j5] at this
theorem zc{w:Wd}{b o:Nat}{vs:List Value}(h:zF w ⟨b,o,none⟩ vs){i:Nat}{v:Value}(hv:vs[i]?=some v):w.cell? ⟨b,o+i,none⟩=some v:=by
 have:=h i v hv
 rwa [j5] at this
theorem jF{w:Wd}{b o:Nat}{vs:List Value}(h:∀i v,vs[i]?=some v->w.cell? ⟨b,o+i,none⟩=some v):zF w ⟨b,o,none⟩ vs :=
 fun i v a=>by rw[j5];exact h i v a
theorem zI{w:Wd}{b o n m:Nat}{vs:List Value}(h:zF w ⟨b,o,none⟩ vs):zF w ⟨b,o+n,none⟩ ((vs.drop n).take m):=by
 refine jF fun i v a=>?_;rw[Ks] at a
 split at a
 ·rw[Kr] at a;have:=zc h a
  rwa [<- Us] at this
 ·cases a
theorem za{w:Wd}{g:Nat}{cs:Array Value}{t:TypeId}{fr:Nat×Nat}(h:w.heap[g]?=some (.cells cs t fr)):zF w ⟨g,0,none⟩ cs.toList:=by
 refine jF fun i v a=>?_;rw[cell_of_row w g (0+i) cs t fr h,UH];simpa using a
theorem zcc{w:Wd}{g o n:Nat}{cs:Array Value}{t:TypeId}{fr:Nat×Nat}(h:w.heap[g]?=some (.cells cs t fr)):zF w ⟨g,o,none⟩ ((cs.toList.drop o).take n):=by
 have:=zI (n:=o) (m:=n) (za h)
 rwa [UH] at this
theorem zhA{w:Wd}{cs:Array Value}{t:TypeId}:zF (w.alloc (.cells cs t)) ⟨w.heap.size,0,none⟩ cs.toList :=
 za (heap_alloc_new w _)
theorem zb{w w2:Wd}(hb:Bw w w2){g:Nat}{o:Obj}(h:w.heap[g]?=some o):w2.heap[g]?=some o :=
 (hb.block g (Ji.1 h).1).trans h
structure Enc (α:Type) where
 enc:α->List Value
 sz:Nat
 len:∀a,(enc a).length=sz
 pos:0<sz
 one:∀a,∀u∈enc a,u.oneCell'=true
def SlR {α:Type} (E:Enc α) (w:Wd) (p:OA) (l:List α):Prop :=
 l=[]\/∃b o,p=some ⟨b,o,none⟩/\b<w.heap.size/\∀i (h:i<l.length),zF w ⟨b,o+i*E.sz,none⟩ (E.enc l[i])
section
variable{α:Type}{E:Enc α}{w w2:Wd}{p:OA}{l:List α}
theorem SlR.nil{E:Enc α}{w:Wd}{p:OA}:SlR E w p [] := .inl rfl
theorem SlR.at(h:SlR E w p l){i:Nat}(hi:i<l.length):∃b o,p=some ⟨b,o,none⟩/\b<w.heap.size/\∀i (h:i<l.length),zF w ⟨b,o+i*E.sz,none⟩ (E.enc l[i]):=by
 rcases h with rfl | h
 ·simp at hi
 ·exact h
theorem SlR.below(h:SlR E w p l)(hb:Bw w w2):SlR E w2 p l:=by
 rcases h with rfl | ⟨b,o,a,hlt,d⟩
 ·exact .inl rfl
 ·exact .inr ⟨b,o,a,nL hlt hb.size,fun i c=>zt hb (d i c)⟩
theorem zcH(l:List α)(i:Nat)(hi:i<l.length):(((l.flatMap E.enc).drop (i*E.sz)).take E.sz)=E.enc l[i]:=by
 induction l generalizing i with
 | nil=>simp at hi
 | cons a r ih =>
  rw[KK]
  cases i with
  | zero=>simp [<- E.len a]
  | succ i =>
   have e:(i+1)*E.sz=(E.enc a).length+i*E.sz:=by rw[E.len,UM];omega
   rw[e,<- Ua,Ub];simpa using ih i (by simpa using hi)
theorem zU(l:List α):(l.flatMap E.enc).length=l.length*E.sz:=by
 induction l with
 | nil=>simp
 | cons a r ih=>rw [KK,lap,ih,E.len,Qj,UM];omega
theorem zgo(l:List α):∀u∈l.flatMap E.enc,u.oneCell'=true:=fun u b=>by
 obtain⟨a,_,h⟩:=List.mem_flatMap.1 b;exact E.one a u h
theorem SlR.of_cells{b o:Nat}(hb:b<w.heap.size)(h:zF w ⟨b,o,none⟩ (l.flatMap E.enc)):SlR E w (some ⟨b,o,none⟩) l :=
 .inr ⟨b,o,rfl,hb,fun i a=>by rw[<- zcH l i a];exact zI h⟩
theorem SlR.cells{b o:Nat}(h:SlR E w (some ⟨b,o,none⟩) l):zF w ⟨b,o,none⟩ (l.flatMap E.enc):=by
 rcases h with rfl | ⟨q,n,m,hlt,k⟩
 ·intro i v a;simp at a
 ·cases m
  refine jF fun j v a=>?_;have g:j<l.length*E.sz:=by rw[<- zU (E:=E) l];exact(Jo.1 a).1
  have e:=E.pos;have c:j/E.sz<l.length:=JU (by rw[UD];exact g);have f:(E.enc l[j/E.sz])[j%E.sz]?=some v:=by
   rw[<- zcH l _ c,Ks,Gd (UU _ e),Kr,UD,QO];exact a
  have d:=zc (k _ c) f
  rwa [Us,UD,QO] at d
def OwnS (E:Enc α) (T:TypeId) (B:Nat) (w:Wd) (p:OA) (cap:Nat) (l:List α):Prop :=
 w.ownsRow B T E.sz (.slice p l.length cap) l.length (l.flatMap E.enc)
theorem OwnS.nil{E:Enc α}{T B:Nat}{w:Wd}:OwnS E T B w none 0 []:=by
 unfold OwnS;exact World.ownsRow_nil _ _ _ _
theorem OwnS.inv{T B cap:Nat}(h:OwnS E T B w p cap l):(p=none/\cap=0/\l=[]) \/
  ∃g cur,p=some ⟨g,0,none⟩/\B<=g/\w.heap[g]?=some (.cells cur T (0,0))/\l.length<=cap/\cap<=maxLen/\cur.size=cap*E.sz/\cur.toList.take (l.length*E.sz)=l.flatMap E.enc:=by
 obtain⟨m,a⟩:=h;rcases a with⟨a,c⟩ | ⟨g,b,cur,a,j,k,f,d,e,i⟩
 ·simp only[Value.slice.injEq] at a;exact .inl ⟨a.1,a.2.2,Jd c⟩
 ·simp only[Value.slice.injEq,true_and] at a;obtain⟨rfl,rfl⟩:=a;exact .inr ⟨g,cur,rfl,j,k,f,d,e,i⟩
theorem OwnS.row{T B cap:Nat}(h:OwnS E T B w p cap l):SlR E w p l:=by
 rcases h.inv with⟨_,_,rfl⟩ | ⟨g,c,rfl,_,a,_,_,_,b⟩
 ·exact .inl rfl
 ·refine SlR.of_cells (Ji.1 a).1 ?_;rw[<- b];exact zcc (o:=0) a
theorem OwnS.kept{T B cap:Nat}(h:OwnS E T B w p cap l){w':Wd}{row:Option Nat}(hg:w.grownBy w' row)(hne:∀g,p=some ⟨g,0,none⟩->row≠some g):OwnS E T B w' p cap l:=by
 refine World.ownsRow.kept h hg ?_;rcases h.inv with⟨rfl,_⟩ | ⟨g,_,rfl,_⟩
 ·exact .inl rfl
 ·exact .inr (fun e=>hne g rfl e.symm)
theorem OwnS.below{T B cap:Nat}(h:OwnS E T B w p cap l)(hb:Bw w w2):OwnS E T B w2 p cap l :=
 h.kept (row:=none) ⟨hb.os,hb.tape,hb.output,hb.size,fun k a _=>hb.block k a⟩ (fun _ _ h=>by cases h)
theorem OwnS.alloc{T B cap:Nat}(h:OwnS E T B w p cap l)(o:Obj):OwnS E T B (w.alloc o) p cap l :=
 h.below ((UR _ w).alloc (UN _) o)
theorem OwnS.drew{T B cap:Nat}(h:OwnS E T B w p cap l):OwnS E T B w.drew p cap l:=h.below (UR _ w).drew
theorem qQ{P:Program}{t T ty B cap m c:Nat}{a:Addr}{news:List α}{iT:TI}{z:List Value}(hu:P.underlying t=some (.slice T))(hT:TIok P T iT)(hz:iT.zero=some z)
  (hs:iT.size=E.sz) (hzl:z.length=E.sz) (ho:OwnS E T B w p cap l) (hm:news.length=m) (hn:zF w a (news.flatMap E.enc)) (hB:B<=w.heap.size)
  (h1:l.length+m<=9223372036854775807) (h2:(l.length+m)*iT.bytes<=140737488355328) {K:Value->Wd->Prop}
  (k:∀p' cap' w',OwnS E T B w' p' cap' (l++news)->w.grownBy w' (Value.slice p l.length cap).ownBlock->Below B w w' ->
   (∀a,p'=some a->p=some a\/a.block=w.heap.size)->K (.slice p' (l++news).length cap') w') :
  SatR ((Builtin.append_ #[t,t] ty #[.slice p l.length cap,.slice (some a) m c]).run P w) K:=by
 obtain⟨⟨i,hi,f,s,r⟩,_⟩:=hT;obtain⟨x,j,o⟩:=r z hz;have d:=run_append_own_at (P:=P) w B t ty T i x E.sz iT.bytes hu hi j (f.trans hs) s (by rw[<- hzl,<- o];simp) E.pos (.slice p l.length cap) l.length (l.flatMap E.enc) ho a m c (news.flatMap E.enc)
  (by rw[zU,hm]) hn (zgo news) (by unfold maxLen;omega) h2 hB
 obtain⟨v',w',hr,b,q,_,n⟩:=d;refine SatR.mk hr ?_;have hl:l.length+m=(l++news).length:=by simp[hm]
 have y:l.flatMap E.enc++news.flatMap E.enc=(l++news).flatMap E.enc:=by rw[Kb]
 rw[hl,y] at b;have u:Below B w w':=(UR B w).grown q hB (fun k e=>(World.ownsRow.lt ho k e).1);rcases b.2 with⟨rfl,v⟩ | ⟨g,cap',aa,rfl,qA⟩
 ·have:K (.slice none (l++news).length 0) w':=k none 0 w' (by unfold OwnS;rw[v] at b ⊢;exact b) q u (fun _ h=>by cases h);rw[v] at this;exact this
 ·refine k _ _ w' b q u fun a ha=>?_
  cases ha
  rcases n with h1 | h1
  ·rcases ho.inv with⟨rfl,_⟩ | ⟨g',_,rfl,_⟩
   ·simp[Value.ownBlock] at h1
   ·simp[Value.ownBlock] at h1;exact .inl (by rw[h1])
  ·simp[Value.ownBlock] at h1;exact .inr h1
theorem OwnS.same{T B cap:Nat}(h:OwnS E T B w p cap l){w':Wd}(hs:∀a,p=some a->w'.heap[a.block]?=w.heap[a.block]?):OwnS E T B w' p cap l:=by
 obtain⟨e,b⟩:=h;refine⟨e,?_⟩;rcases b with b | ⟨g,c,d,b,f,i,qA⟩
 ·exact .inl b
 ·refine .inr ⟨g,c,d,b,f,?_,qA⟩;simp only[Value.slice.injEq] at b;rw[<- i];exact hs _ b.1
end
theorem zw(w:Wd)(o:Obj):(w.alloc o).heap[w.heap.size]?=some o:=by
 show(w.heap.push o)[w.heap.size]?=some o;simp
theorem z6{w:Wd}{i:Nat}{x:Obj}(o:Obj)(h:w.heap[i]?=some x):(w.alloc o).heap[i]?=some x:=by
 have a:i<w.heap.size:=(Ji.1 h).1;show(w.heap.push o)[i]?=some x;rw[Array.getElem?_push,Gc (Nat.ne_of_lt a)];exact h
theorem zck{w:Wd}{i g:Nat}{x:Obj}(cs:Array Value)(hne:i≠g)(h:w.heap[i]?=some x):(w.setRow g cs).heap[i]?=some x:=by
 rw[setRow_other w g i cs hne];exact h
theorem hdr{w:Wd}{i:Nat}{x:Obj}(h:w.heap[i]?=some x):w.drew.heap[i]?=some x:=h
theorem hlt{w:Wd}{i:Nat}{x:Obj}(h:w.heap[i]?=some x):i<w.heap.size:=(Ji.1 h).1
theorem zo{P:Program}{w:Wd}{T g:Nat}{iT:TI}(hT:TIok P T iT){cs:Array Value}{t:TypeId}(hg:w.heap[g]?=some (.cells cs t (0,0))){v:Value}(hv:v.cells.size=iT.size)
  (hc:cs.size=iT.size) (h0:v.cells.toList.all Value.oneCell'=true) {K:Wd->Prop} (k:K (w.setRow g v.cells)):SatR ((storeVar T ⟨g,0,none⟩ v).run P w) fun _ w'=>K w':=by
 obtain⟨⟨d,e,c,_,_⟩,_⟩:=hT;have f:∀u∈v.cells.toList,u.oneCell'=true:=Qa.1 h0;have b:=KV P g 0 t v.cells.toList 0 cs w hg (by simp;omega) f;refine SatR.mk (v:=()) (w':=w.setRow g v.cells) ?_ k;have a:(sizeOf T).run P w = .ok iT.size w:=by simp[sizeOf,typeInfo,e,c]
 simp only[storeVar,UJ,a,KT,hv,ne_eq,KU,UZ];rw[b];congr 2;apply KW.1;simp[hc,hv]
theorem zk{w:Wd}{g:Nat}{cs cs':Array Value}{t:TypeId}{fr:Nat×Nat}(hg:w.heap[g]?=some (.cells cs t fr)):(w.setRow g cs').heap[g]?=some (.cells cs' t fr):=setRow_heap w g cs cs' t fr hg
theorem zq{w:Wd}{g k:Nat}{cs:Array Value}(h:k≠g):(w.setRow g cs).heap[k]?=w.heap[k]?:=setRow_other w g k cs h
theorem zh{B:Nat}{a w:Wd}(h:Below B a w){g:Nat}(hg:B<=g)(cs:Array Value):Below B a (w.setRow g cs) :=
 h.trans ⟨rfl,rfl,rfl,by simp,fun k b=>zq (by omega)⟩
theorem qp(w:Wd)(g:Nat)(cs:Array Value):w.grownBy (w.setRow g cs) (some g) :=
 ⟨rfl,rfl,rfl,by simp,fun k _ a=>zq (fun e=>a (by rw[e]))⟩
end Go.Vc
namespace Go.Vc
open Go.RowKit Go.Lib
theorem znj(b o i:Nat):(⟨b,o,none⟩:Addr).add i=⟨b,o+i,none⟩:=by
 unfold Addr.add;by_cases h:i=0
 ·simp[h]
 ·simp[h]
theorem js(p:OA)(cap sz:Nat):z7 p cap 0 sz=p:=by
 unfold z7
 split
 ·rfl
 ·cases p with
  | none=>rfl
  | some a=>simp [Addr.add]
section
variable{α:Type}{E:Enc α}{w:Wd}{p:OA}{l:List α}
theorem SlR.sub(h:SlR E w p l){cap lo hi:Nat}(h1:lo<=hi)(h2:hi<=l.length)(h3:l.length<=cap):SlR E w (z7 p cap lo E.sz) ((l.drop lo).take (hi-lo)):=by
 by_cases e:hi=lo
 ·left;subst e;simp
 ·rcases h with rfl | ⟨b,o,rfl,d,c⟩
  ·left;simp
  ·right;refine⟨b,o+lo*E.sz,?_,d,fun i a=>?_⟩
   ·unfold z7;rw[Gc (by omega)];simp[znj]
   ·simp only[Ql,Qk] at a;have:=c (lo+i) (by omega);rw[List.getElem_take,List.getElem_drop];rw[Us,<- UM];exact this
theorem SlR.none(h:SlR E w none l):l=[]:=by
 rcases h with h | ⟨b,o,h,_⟩
 ·exact h
 ·cases h
theorem zej{P:Program}{t T ty B cap m c:Nat}{a:OA}{news:List α}{iT:TI}{z:List Value}(hu:P.underlying t=some (.slice T))(hT:TIok P T iT)(hz:iT.zero=some z)
  (hs:iT.size=E.sz) (hzl:z.length=E.sz) (ho:OwnS E T B w p cap l) (hm:news.length=m) (hn:SlR E w a news) (hc:a=none->c=0) (hB:B<=w.heap.size)
  (h1:l.length+m<=9223372036854775807) (h2:(l.length+m)*iT.bytes<=140737488355328) {K:Value->Wd->Prop}
  (k:∀p' cap' w',OwnS E T B w' p' cap' (l++news)->w.grownBy w' (Value.slice p l.length cap).ownBlock->Below B w w'->K (.slice p' (l++news).length cap') w') :
  SatR ((Builtin.append_ #[t,t] ty #[.slice p l.length cap,.slice a m c]).run P w) K:=by
 cases a with
 | none =>
  have hn:=hn.none;have hc:=hc rfl;subst hn hc;simp at hm;subst hm;obtain⟨⟨f,s,r,x,n⟩,_⟩:=hT;refine SatR.mk (run_append_owned_none (P:=P) (w:=w) B t ty T f E.sz hu s _ _ _ ho) ?_;have:=k p cap w (by rw[QA];exact ho) ⟨rfl,rfl,rfl,UN _,fun _ _ _=>rfl⟩ (UR _ _)
  rwa [QA] at this
 | some a =>
  by_cases j:news=[]
  ·subst j;simp at hm;subst hm;exact qQ hu hT hz hs hzl ho (by simp) (fun i v q=>by simp at q) hB h1 h2 fun p' cap' w' h1 h2 d _=>k p' cap' w' h1 h2 d
  ·have e:zF w a (news.flatMap E.enc):=by
    rcases hn with h | ⟨b,o,h,u,g⟩
    ·exact Ge h j
    ·cases h
     exact SlR.cells (.inr ⟨b,o,rfl,u,g⟩)
   exact qQ hu hT hz hs hzl ho hm e hB h1 h2 fun p' cap' w' h1 h2 d _=>k p' cap' w' h1 h2 d
theorem zne{P:Program}{t tn T ty B n:Nat}{kn kq:IntKind}{iT:TI}{z:List Value}(hu:P.underlying t=some (.slice T))(hun:P.underlying tn=some (.int kn))(hT:TIok P T iT)(hz:iT.zero=some z)
  (hs:iT.size=E.sz) (hzl:z.length=E.sz) (hB:B<=w.heap.size) (h0:0<n) (h1:n<=4611686018427387904) (h2:n*iT.bytes<=140737488355328) {K:Value->Wd->Prop}
  (k:∀cap' w',OwnS E T B w' (some ⟨w.heap.size,0,none⟩) cap' ([]:List α)->Bw w w'->n<=cap'->K (.slice (some ⟨w.heap.size,0,none⟩) n cap') w') :
  SatR ((Builtin.append_ #[t,tn] ty #[.slice none 0 0,.int kq n]).run P w) K:=by
 obtain⟨⟨a,m,e,b,d⟩,_⟩:=hT;obtain⟨i,g,h⟩:=d z hz;have j:=run_append_grow_zeros (P:=P) w t tn ty T a i kq kn hu hun m g none 0 0 [] (run_firstCells_none w.drew a.size 0 0 0) n h0 (by rw[e,hs];exact E.pos) (by omega) (by omega) (by rw[b];omega)
  (growslice_fits (by omega) (by rw[b,UH];omega))
 rw[UH] at j;have c:=grownCap_ge w n 0 T;refine SatR.mk j (k _ _ ⟨by simp,.inr ⟨w.heap.size,_,_,rfl,hB,heap_alloc_new w.drew _,UP _,grownCap_le_maxLen w n 0 T (by unfold maxLen;omega),?_,by simp⟩⟩ ((UR _ _).drew.alloc (UN _) _) c);have f:i.cells.size=E.sz:=by rw[<- hzl,<- h];simp
 simp only[Array.size_append,size_zeroCells,f];simp only[KQ,QE,UH];rw[<- UM];congr 1;omega
end
end Go.Vc
namespace Go.Vc
open Go.RowKit
theorem zcn{a:Int}(h:0<=a/\a<=18446744073709551615):IntKind.u64.wrap a=a:=by
 simp[IntKind.wrap,IntKind.signed,IntKind.bits] <;> omega
def RowS {α:Type} (E:Enc α) (T:TypeId) (w:Wd) (g:Nat) (sp:List Value) (l:List α):Prop :=
 w.heap[g]?=some (.cells (l.flatMap E.enc++sp).toArray T (0,0))
section
variable{α:Type}{E:Enc α}{T:TypeId}{w w2:Wd}{g:Nat}{sp:List Value}{l:List α}
theorem RowS.row(h:RowS E T w g sp l):SlR E w (some ⟨g,0,none⟩) l:=by
 refine SlR.of_cells (hlt h) (jF fun i v a=>zc (za h) ?_);rw[Jn (Jo.1 a).1];exact a
theorem RowS.at(h:RowS E T w g sp l){i:Nat}(hi:i<l.length):zF w ⟨g,0+i*E.sz,none⟩ (E.enc l[i]):=by
 rcases h.row with c | ⟨b,o,a,_,d⟩
 ·subst c;simp at hi
 ·cases a;exact d i hi
theorem RowS.lt(h:RowS E T w g sp l):g<w.heap.size:=hlt h
theorem RowS.same(h:RowS E T w g sp l)(hs:w2.heap[g]?=w.heap[g]?):RowS E T w2 g sp l:=hs.trans h
theorem RowS.below(h:RowS E T w g sp l)(hb:Bw w w2):RowS E T w2 g sp l:=zb hb h
theorem zjr(l:List α){i:Nat}(hi:i<l.length)(x:α)(sp:List Value) :
  (l.flatMap E.enc++sp).take (i*E.sz)++E.enc x++(l.flatMap E.enc++sp).drop (i*E.sz+E.sz)=(l.set i x).flatMap E.enc++sp:=by
 have c:l=l.take i++l[i]::l.drop (i+1):=by rw[JA,JL]
 have d:((l.take i).flatMap E.enc).length=i*E.sz:=by rw[zU,Ql,QQ (by omega)]
 have a:(l.take i++l[i]::l.drop (i+1)).flatMap E.enc++sp=(l.take i).flatMap E.enc++(E.enc l[i]++((l.drop (i+1)).flatMap E.enc++sp)):=by
  rw[Kb,KK];simp only[KH]
 rw[<- c] at a;rw[Ja,Gd hi,a];rw[Je (by omega),JB (by omega),List.drop_append,Jw (by omega),d];have b:i*E.sz+E.sz-i*E.sz=E.sz:=by omega
 rw[b,QJ,List.drop_append,Jw (by rw[E.len];exact UN _),E.len,UE,Uc];simp[Kb]
theorem zg3{P:Program}{Te:TypeId}{iT:TI}(hT:TIok P Te iT)(hs:iT.size=E.sz)(hr:RowS E T w g sp l){i:Nat}(hi:i<l.length)(x:α){K:Wd->Prop}
  (k:∀w',RowS E T w' g sp (l.set i x)->w.grownBy w' (some g)->w'.heap.size=w.heap.size->K w') :
  SatR ((storeVar Te ⟨g,0+i*E.sz,none⟩ (.agg (E.enc x).toArray)).run P w) fun _ w'=>K w':=by
 obtain⟨⟨h,a,c,_,_⟩,_⟩:=hT;have d:(l.flatMap E.enc).length=l.length*E.sz:=zU l;have f:i*E.sz+E.sz<=l.length*E.sz:=by rw[<- UG];exact JW _ hi
 have e:=KV P g (0+i*E.sz) T (E.enc x) 0 _ w hr (by rw[E.len];simp only[KQ,lap,d];omega) (E.one x);have b:(sizeOf Te).run P w = .ok iT.size w:=by simp[sizeOf,typeInfo,a,c]
 refine SatR.mk (v:=()) (w':=w.setRow g ((l.set i x).flatMap E.enc++sp).toArray) ?_ (k _ (zk hr) (qp w g _) (by simp));simp only[storeVar,UJ,b,KT];have j:(Value.agg (E.enc x).toArray).cells=(E.enc x).toArray:=rfl;rw[j];simp only[KQ,E.len,hs,ne_eq,KU,UZ];rw[e,<- zjr l hi x sp];simp only[E.len,UH,UB]
theorem qP(w:Wd)(row:Option Nat):w.grownBy w row:=⟨rfl,rfl,rfl,UN _,fun _ _ _=>rfl⟩
theorem zf{a b c:Wd}{row:Option Nat}(h:a.grownBy b row)(k:b.grownBy c row):a.grownBy c row :=
 ⟨k.os.trans h.os,k.tape.trans h.tape,k.output.trans h.output,UC h.size k.size,fun i e d=>(k.block i (nL e h.size) d).trans (h.block i e d)⟩
theorem zi{a b:Wd}{row:Option Nat}(h:Bw a b):a.grownBy b row:=⟨h.os,h.tape,h.output,h.size,fun k c _=>h.block k c⟩
theorem j9{P:Program}{Te:TypeId}{iT:TI}(hT:TIok P Te iT)(hs:iT.size=1){cs:Array Value}{t:TypeId}(hg:w.heap[g]?=some (.cells cs t (0,0))){o:Nat}(ho:o<cs.size){v:Value}(hv:v.cells = #[v])(h1:v.oneCell'=true){K:Wd->Prop}
  (k:∀w',w'.heap[g]?=some (.cells (cs.toList.take o++[v]++cs.toList.drop (o+1)).toArray t (0,0))->w.grownBy w' (some g)->w'.heap.size=w.heap.size->K w') :
  SatR ((storeVar Te ⟨g,o,none⟩ v).run P w) fun _ w'=>K w':=by
 obtain⟨⟨e,a,c,_,_⟩,_⟩:=hT;have d:=KV P g o t [v] 0 cs w hg (by simp;omega) (by simp[h1]);have b:(sizeOf Te).run P w = .ok iT.size w:=by simp[sizeOf,typeInfo,a,c]
 refine SatR.mk (v:=()) (w':=w.setRow g (cs.toList.take o++[v]++cs.toList.drop (o+1)).toArray) ?_ (k _ (zk hg) (qp w g _) (by simp));simp only[storeVar,UJ,b,KT,hv,hs];simpa using d
end
end Go.Vc
namespace Go.Sei
open Go.Vc
structure Msg where
 kind:UInt8
 from_:UInt8
 to:UInt8
 line:UInt8
 asker:UInt8
 acks:UInt8
 alone:Bool
 d0:UInt8
 d1:UInt8
 d2:UInt8
 d3:UInt8
 deriving DecidableEq
def Msg.enc (m:Msg):List Value:=[u8 m.kind,u8 m.from_,u8 m.to,u8 m.line,u8 m.asker,u8 m.acks,.bool m.alone,u8 m.d0,u8 m.d1,u8 m.d2,u8 m.d3]
def Msg.val (m:Msg):Value := .agg m.enc.toArray
def zqk:Enc Int:=⟨fun n=>[.int .i64 n],1,fun _=>rfl,by decide,fun a u hu=>by
 simp only[Ur,Qm,Ga] at hu;subst hu;rfl⟩
end Go.Sei
namespace Go.Vc
open Go.RowKit
inductive Mk where
 | p
 | s (a b:Mk)
 | c (a b:Mk)
 | d (a b:Mk)
 | b (a:Mk)
 | l (a:Mk)
def zto (first:(Exit->Env->Wd->Prop)->Prop) (second:Env->Wd->(Exit->Env->Wd->Prop)->Prop) (Q:Exit->Env->Wd->Prop):Prop :=
 ∃(σ:Type) (env:σ->Env) (inv:σ->Wd->Prop),(first fun ex E' w'=>match ex with
  | .normal=>∃s,Cov E' (env s)/\inv s w'
  | ex=>Q ex E' w')/\∀s w',inv s w'->second (env s) w' Q
noncomputable def wpM (S:Sig) (m:Mk):Code->Env->Wd->(Exit->Env->Wd->Prop)->Prop :=
 Mk.rec (motive:=fun _=>Code->Env->Wd->(Exit->Env->Wd->Prop)->Prop)
  (fun c E w Q=>wpE S c E w Q)
  (fun _ _ ia ib c E w Q=>match c with
   | .seq x y=>ia x E w fun ex E' w'=>match ex with
    | .normal=>ib y E' w' Q
    | ex=>Q ex E' w'
   | _=>False)
  (fun _ _ ia ib c E w Q=>match c with
   | .seq x y=>zto (fun Q=>ia x E w Q) (fun E w Q=>ib y E w Q) Q
   | _=>False)
  (fun _ _ ia ib c E w Q=>match c with
   | .cond c x y=>(match opd E c with
    | some (.bool v)=>Br v (ia x E w Q) (ib y E w Q)
    | _=>False)
   | _=>False)
  (fun _ ia c E w Q=>match c with
   | .block id x=>ia x E w fun ex E' w'=>match ex with
    | .exit id'=>(match Nat.beq id' id with
     | true=>Q .normal E' w'
     | false=>Q (.exit id') E' w')
    | ex=>Q ex E' w'
   | _=>False)
  (fun _ ia c E w Q=>match c with
   | .loop x=>zpo (fun E w Q=>ia x E w Q) E w Q
   | _=>False)
  m
section
variable{S:Sig}
theorem jI(hS:SigOk S):∀(m:Mk) (c:Code) (E:Env) (a:Act) (w:Wd) (Q:Exit->Env->Wd->Prop),Agrees S a E->wpM S m c E w Q->c.wpIn (FR S.r) NN S.P (zgU S Q) a w
 | .p,c,E,a,w,Q,j,h=>qx hS c E a w Q j h
 | .s m k,.seq x y,E,a,w,Q,j,h=>by
  replace h:(wpM S m x E w fun i E' n=>match i with | .normal=>wpM S k y E' n Q | i=>Q i E' n):=h;refine wpIn_seq (UW (jI hS m x E a w _ j h) ?_);rintro i z n ⟨E',f,o⟩
  cases i with
  | normal=>exact jI hS k y E' z n Q f o
  | _=>exact⟨E',f,o⟩
 | .c m k,.seq x y,E,a,w,Q,j,h=>by
  replace h:zto (fun Q=>wpM S m x E w Q) (fun E w Q=>wpM S k y E w Q) Q:=h;obtain⟨σ,g,inv,h1,h2⟩:=h;refine wpIn_seq (UW (jI hS m x E a w _ j h1) ?_);rintro i z n ⟨E',f,o⟩
  cases i with
  | normal =>
   obtain⟨s,hc,hi⟩:=o;exact jI hS k y (g s) z n Q (f.cov hc) (h2 s n hi)
  | _=>exact⟨E',f,o⟩
 | .d m k,.cond c x y,E,a,w,Q,j,h=>by
  replace h:(match opd E c with | some (.bool v)=>Br v (wpM S m x E w Q) (wpM S k y E w Q) | _=>False):=h
  split at h
  ·rename_i b q;refine wpIn_cond_split (j.eval q) (fun e=>jI hS m x E a w Q j (h.1 e)) (fun e=>jI hS k y E a w Q j (h.2 e))
  ·exact h.elim
 | .b m,.block id x,E,a,w,Q,j,h=>by
  replace h:(wpM S m x E w fun i E' n=>match i with | .exit id'=>(match Nat.beq id' id with | true=>Q .normal E' n | false=>Q (.exit id') E' n) | i=>Q i E' n):=h;refine wpIn_block (UW (jI hS m x E a w _ j h) ?_);rintro i z n ⟨E',f,o⟩
  cases i with
  | exit id' =>
   simp only[Exit.inBlock];dsimp only at o
   split at o
   ·rename_i q;rw[Gd (JM q)];exact⟨E',f,o⟩
   ·rename_i q;rw[Gc (Nat.ne_of_beq_eq_false q)];exact⟨E',f,o⟩
  | _=>exact⟨E',f,o⟩
 | .l m,.loop x,E,a,w,Q,j,h=>by
  replace h:zpo (fun E w Q=>wpM S m x E w Q) E w Q:=h;obtain⟨σ,g,inv,μ,s0,hc,hi,q⟩:=h;have aa:∀m s a w,μ s=m->Agrees S a (g s)->inv s w->(Code.loop x).wpIn (FR S.r) NN S.P (zgU S Q) a w:=by
   intro m' s a w hm j hi;refine wpIn_loop (fun a w=>∃s,Agrees S a (g s)/\inv s w) (fun a w=>leastOf (fun k=>∃s,Agrees S a (g s)/\inv s w/\μ s=k)) ⟨s,j,hi⟩ ?_;intro a w ⟨s1,ab,ac⟩;obtain⟨⟨s2,ae,ad,af⟩,_⟩:=leastOf_spec (p:=fun k=>∃s,Agrees S a (g s)/\inv s w/\μ s=k) ⟨_,s1,ab,ac,rfl⟩;refine UW (jI hS m x (g s2) a w _ ae (q s2 w ad)) ?_;rintro i z n ⟨E',f,o⟩
   cases i with
   | normal =>
    obtain⟨s',u,t,hlt⟩:=o;refine⟨⟨s',f.cov u,t⟩,?_⟩;have:=(leastOf_spec (p:=fun k=>∃s,Agrees S z (g s)/\inv s n/\μ s=k) ⟨_,s',f.cov u,t,rfl⟩).2;rw[<- af];exact Kz (this _ ⟨s',f.cov u,t,rfl⟩) hlt
   | _=>exact⟨E',f,o⟩
  exact aa _ s0 a w rfl (j.cov hc) hi
 | .s _ _,.skip,_,_,_,_,_,h=>h.elim
 | .s _ _,.region _ _ _,_,_,_,_,_,h=>h.elim
 | .s _ _,.cond _ _ _,_,_,_,_,_,h=>h.elim
 | .s _ _,.block _ _,_,_,_,_,_,h=>h.elim
 | .s _ _,.loop _,_,_,_,_,_,h=>h.elim
 | .s _ _,.rangeFunc _ _ _ _,_,_,_,_,_,h=>h.elim
 | .s _ _,.exit _,_,_,_,_,_,h=>h.elim
 | .s _ _,.scope _,_,_,_,_,_,h=>h.elim
 | .s _ _,.label _,_,_,_,_,_,h=>h.elim
 | .s _ _,.goto _,_,_,_,_,_,h=>h.elim
 | .s _ _,.ret,_,_,_,_,_,h=>h.elim
 | .s _ _,.refuse _,_,_,_,_,_,h=>h.elim
 | .c _ _,.skip,_,_,_,_,_,h=>h.elim
 | .c _ _,.region _ _ _,_,_,_,_,_,h=>h.elim
 | .c _ _,.cond _ _ _,_,_,_,_,_,h=>h.elim
 | .c _ _,.block _ _,_,_,_,_,_,h=>h.elim
 | .c _ _,.loop _,_,_,_,_,_,h=>h.elim
 | .c _ _,.rangeFunc _ _ _ _,_,_,_,_,_,h=>h.elim
 | .c _ _,.exit _,_,_,_,_,_,h=>h.elim
 | .c _ _,.scope _,_,_,_,_,_,h=>h.elim
 | .c _ _,.label _,_,_,_,_,_,h=>h.elim
 | .c _ _,.goto _,_,_,_,_,_,h=>h.elim
 | .c _ _,.ret,_,_,_,_,_,h=>h.elim
 | .c _ _,.refuse _,_,_,_,_,_,h=>h.elim
 | .d _ _,.skip,_,_,_,_,_,h=>h.elim
 | .d _ _,.region _ _ _,_,_,_,_,_,h=>h.elim
 | .d _ _,.seq _ _,_,_,_,_,_,h=>h.elim
 | .d _ _,.block _ _,_,_,_,_,_,h=>h.elim
 | .d _ _,.loop _,_,_,_,_,_,h=>h.elim
 | .d _ _,.rangeFunc _ _ _ _,_,_,_,_,_,h=>h.elim
 | .d _ _,.exit _,_,_,_,_,_,h=>h.elim
 | .d _ _,.scope _,_,_,_,_,_,h=>h.elim
 | .d _ _,.label _,_,_,_,_,_,h=>h.elim
 | .d _ _,.goto _,_,_,_,_,_,h=>h.elim
 | .d _ _,.ret,_,_,_,_,_,h=>h.elim
 | .d _ _,.refuse _,_,_,_,_,_,h=>h.elim
 | .b _,.skip,_,_,_,_,_,h=>h.elim
 | .b _,.region _ _ _,_,_,_,_,_,h=>h.elim
 | .b _,.seq _ _,_,_,_,_,_,h=>h.elim
 | .b _,.cond _ _ _,_,_,_,_,_,h=>h.elim
 | .b _,.loop _,_,_,_,_,_,h=>h.elim
 | .b _,.rangeFunc _ _ _ _,_,_,_,_,_,h=>h.elim
 | .b _,.exit _,_,_,_,_,_,h=>h.elim
 | .b _,.scope _,_,_,_,_,_,h=>h.elim
 | .b _,.label _,_,_,_,_,_,h=>h.elim
 | .b _,.goto _,_,_,_,_,_,h=>h.elim
 | .b _,.ret,_,_,_,_,_,h=>h.elim
 | .b _,.refuse _,_,_,_,_,_,h=>h.elim
 | .l _,.skip,_,_,_,_,_,h=>h.elim
 | .l _,.region _ _ _,_,_,_,_,_,h=>h.elim
 | .l _,.seq _ _,_,_,_,_,_,h=>h.elim
 | .l _,.cond _ _ _,_,_,_,_,_,h=>h.elim
 | .l _,.block _ _,_,_,_,_,_,h=>h.elim
 | .l _,.rangeFunc _ _ _ _,_,_,_,_,_,h=>h.elim
 | .l _,.exit _,_,_,_,_,_,h=>h.elim
 | .l _,.scope _,_,_,_,_,_,h=>h.elim
 | .l _,.label _,_,_,_,_,_,h=>h.elim
 | .l _,.goto _,_,_,_,_,_,h=>h.elim
 | .l _,.ret,_,_,_,_,_,h=>h.elim
 | .l _,.refuse _,_,_,_,_,_,h=>h.elim
theorem zkZ(hS:SigOk S){f:FuncId}{fn:Func}{c:Code}{args:List Value}{w:Wd}{R:Ending->Wd->Prop}(m:Mk)
  (hf:S.P.funcs[f]?=some fn) (hb:fn.body=some c) (hn:fn.ntmps=S.n) (hle:args.length<=S.n) (hr:S.r=none)
  (h:wpM S m c ⟨zdd 0 args,[]⟩ w (zlq S fn R)):Calls S.P f args.toArray w R:=by
 rw[<- callsIn_wide (n:=NN)];have i:FR none=Fence.wide:=rfl;rw[<- i];refine callsIn_of_wp_marks hf hb trivial ?_;have p:Agrees S { tmps:=args.toArray++Array.replicate (fn.ntmps-args.toArray.size) undef,defers:=[] } ⟨zdd 0 args,[]⟩:=by
  refine⟨?_,rfl,fun t v g=>?_⟩
  ·simp[hn];omega
  ·obtain⟨_,d⟩:=zdH _ _ _ _ g;simp only[UF] at d;have hlt:t<args.length:=(Jo.1 d).1;simp only[Array.getElem?_append,KQ,hlt,Gb];simpa using d
 have e:=jI hS m c _ _ w _ p h;rw[hr] at e;refine UW e ?_;rintro o k q ⟨E',a,b⟩
 cases o with
 | normal=>have:=zaq hS a _ _ b;rw [<- a.defers] at this;exact this
 | ret=>have:=zaq hS a _ _ b;rw [<- a.defers] at this;exact this
 | panic ch =>
  obtain⟨j,l⟩:=b;show LeavesInM _ _ _ _ _ _ k.defers _ _;rw[a.defers,j];exact l
 | exit _=>exact b.elim
 | goto _=>exact b.elim
 | outgrown=>exact b.elim
end
end Go.Vc
namespace Go.Proofs.YtakcdebpklffiaaGreatDoor
open Go.Vc Go.RowKit
abbrev zU6:Value := .int .u64 0
abbrev zU8:Value := .int .u8 0
abbrev zU3:Value := .int .u32 0
abbrev zI6:Value := .int .i64 0
def zpv:List Value:=[zI6,zU6,zU6,zU6,zU6,zU6,zU6,zU6,zU6,zU6,zU6,zU6,zU6,zU6,zU6,zU6,zU6,zU6,zU6,zU6,zU6,zU6,zU6,zU6,zU6,zU6,zU6,zU6,zU6,zU6,zU6,zU6,zU6,zU6,zU6,zU6,zU6,zU6,zU6,zU6,zU6,zU6,zU6,zU6,zU6,zU6,zU6,zU6,zU6]
def zj3:List Value:=[.slice none 0 0,zI6,zU6,zU6,zU6,zU6,zU6,zU6,zU6,zU6,zU6,zU6,zU6,zU6,zU6,zU6,zU6,zU6,zU6,zU6,zU6,zU6,zU6,zU6,zU6,zU6,zU6,zU6,zU6,zU6,zU6,zU6,zU6,zU6,zU6,zU6,zU6,zU6,zU6,zU6,zU6,zU6,zU6,zU6,zU6,zU6,zU6,zU6,zU6,zU6,zI6,zU6,zU6,zU6,zU6,zU6,zU6,zU6,zU6,zU6,zU6,zU6,zU6,zU6,zU6,zU6,zU6,zU6,zU6,zU6,zU6,zU6,zU6,zU6,zU6,zU6,zU6,zU6,zU6,zU6,zU6,zU6,zU6,zU6,zU6,zU6,zU6,zU6,zU6,zU6,zU6,zU6,zU6,zU6,zU6,zU6,zU6,zU6,zU6,zI6,zU6,zU6,zU6,zU6,zU6,zU6,zU6,zU6,zU6,zU6,zU6,zU6,zU6,zU6,zU6,zU6,zU6,zU6,zU6,zU6,zU6,zU6,zU6,zU6,zU6,zU6,zU6,zU6,zU6,zU6,zU6,zU6,zU6,zU6,zU6,zU6,zU6,zU6,zU6,zU6,zU6,zU6,zU6,zU6,zU6,zU6,zU6,zU6,zI6,zU6,zU6,zU6,zU6,zU6,zU6,zU6,zU6,zU6,zU6,zU6,zU6,zU6,zU6,zU6,zU6,zU6,zU6,zU6,zU6,zU6,zU6,zU6,zU6,zU6,zU6,zU6,zU6,zU6,zU6,zU6,zU6,zU6,zU6,zU6,zU6,zU6,zU6,zU6,zU6,zU6,zU6,zU6,zU6,zU6,zU6,zU6,zU6,zI6,zU6,zU6,zU6,zU6,zU6,zU6,zU6,zU6,zU6,zU6,zU6,zU6,zU6,zU6,zU6,zU6,zU6,zU6,zU6,zU6,zU6,zU6,zU6,zU6,zU6,zU6,zU6,zU6,zU6,zU6,zU6,zU6,zU6,zU6,zU6,zU6,zU6,zU6,zU6,zU6,zU6,zU6,zU6,zU6,zU6,zU6,zU6,zU6,zI6,zU6,zU6,zU6,zU6,zU6,zU6,zU6,zU6,zU6,zU6,zU6,zU6,zU6,zU6,zU6,zU6,zU6,zU6,zU6,zU6,zU6,zU6,zU6,zU6,zU6,zU6,zU6,zU6,zU6,zU6,zU6,zU6,zU6,zU6,zU6,zU6,zU6,zU6,zU6,zU6,zU6,zU6,zU6,zU6,zU6,zU6,zU6,zU6,zU8,zU8,zU8,zU8,zU8,zU8,zU8,zU8,zU8,zU8,zU8,zU8,zU8,zU8,zU8,zU8,zU8,zU8,zU8,zU8,zU8,zU8,zU8,zU8,zU8,zU8,zU8,zU8,zU8,zU8,zU8,zU8,zU8,zU8,zU8,zU8,zU8,zU8]
def zcm:List Value:=[.slice none 0 0,zI6,zU6,zU6,zU6,zU6,zU6,zU6,zU6,zU6,zU6,zU6,zU6,zU6,zU6,zU6,zU6,zU6,zU6,zU6,zU6,zU6,zU6,zU6,zU6,zU6,zU6,zU6,zU6,zU6,zU6,zU6,zU6,zU6,zU6,zU6,zU6,zU6,zU6,zU6,zU6,zU6,zU6,zU6,zU6,zU6,zU6,zU6,zU6,zU6,zI6,zU6,zU6,zU6,zU6,zU6,zU6,zU6,zU6,zU6,zU6,zU6,zU6,zU6,zU6,zU6,zU6,zU6,zU6,zU6,zU6,zU6,zU6,zU6,zU6,zU6,zU6,zU6,zU6,zU6,zU6,zU6,zU6,zU6,zU6,zU6,zU6,zU6,zU6,zU6,zU6,zU6,zU6,zU6,zU6,zU6,zU6,zU6,zU6,zI6,zU6,zU6,zU6,zU6,zU6,zU6,zU6,zU6,zU6,zU6,zU6,zU6,zU6,zU6,zU6,zU6,zU6,zU6,zU6,zU6,zU6,zU6,zU6,zU6,zU6,zU6,zU6,zU6,zU6,zU6,zU6,zU6,zU6,zU6,zU6,zU6,zU6,zU6,zU6,zU6,zU6,zU6,zU6,zU6,zU6,zU6,zU6,zU6,zI6,zU6,zU6,zU6,zU6,zU6,zU6,zU6,zU6,zU6,zU6,zU6,zU6,zU6,zU6,zU6,zU6,zU6,zU6,zU6,zU6,zU6,zU6,zU6,zU6,zU6,zU6,zU6,zU6,zU6,zU6,zU6,zU6,zU6,zU6,zU6,zU6,zU6,zU6,zU6,zU6,zU6,zU6,zU6,zU6,zU6,zU6,zU6,zU6,zI6,zU6,zU6,zU6,zU6,zU6,zU6,zU6,zU6,zU6,zU6,zU6,zU6,zU6,zU6,zU6,zU6,zU6,zU6,zU6,zU6,zU6,zU6,zU6,zU6,zU6,zU6,zU6,zU6,zU6,zU6,zU6,zU6,zU6,zU6,zU6,zU6,zU6,zU6,zU6,zU6,zU6,zU6,zU6,zU6,zU6,zU6,zU6,zU6,zI6,zU6,zU6,zU6,zU6,zU6,zU6,zU6,zU6,zU6,zU6,zU6,zU6,zU6,zU6,zU6,zU6,zU6,zU6,zU6,zU6,zU6,zU6,zU6,zU6,zU6,zU6,zU6,zU6,zU6,zU6,zU6,zU6,zU6,zU6,zU6,zU6,zU6,zU6,zU6,zU6,zU6,zU6,zU6,zU6,zU6,zU6,zU6,zU6,zU8,zU8,zU8,zU8,zU8,zU8,zU8,zU8,zU8,zU8,zU8,zU8,zU8,zU8,zU8,zU8,zU8,zU8,zU8,zU8,zU8,zU8,zU8,zU8,zU8,zU8,zU8,zU8,zU8,zU8,zU8,zU8,zU8,zU8,zU8,zU8,zU8,zU8,.slice none 0 0,.slice none 0 0,.slice none 0 0]
def zsO:List Value:=[zI6,zU8,zU8,zU8,zU8,zU8,zU8,zI6,zU8,zU8,zU8,zU8,zU8,zU8,zI6,zU8,zU8,zU8,zU8,zU8,zU8,zI6,zU8,zU8,zU8,zU8,zU8,zU8,zI6,zU8,zU8,zU8,zU8,zU8,zU8,zI6,zU8,zU8,zU8,zU8,zU8,zU8,zI6,zU8,zU8,zU8,zU8,zU8,zU8,zI6,zU8,zU8,zU8,zU8,zU8,zU8,zI6,zU8,zU8,zU8,zU8,zU8,zU8,zI6,zU8,zU8,zU8,zU8,zU8,zU8,zI6,zU8,zU8,zU8,zU8,zU8,zU8,zI6,zU8,zU8,zU8,zU8,zU8,zU8,zI6,zU8,zU8,zU8,zU8,zU8,zU8,zI6,zU8,zU8,zU8,zU8,zU8,zU8,zI6,zU8,zU8,zU8,zU8,zU8,zU8,zI6,zU8,zU8,zU8,zU8,zU8,zU8,zI6,zU8,zU8,zU8,zU8,zU8,zU8,zI6,zU8,zU8,zU8,zU8,zU8,zU8,zI6,zU8,zU8,zU8,zU8,zU8,zU8,zI6,zU8,zU8,zU8,zU8,zU8,zU8,zI6,zU8,zU8,zU8,zU8,zU8,zU8,zI6,zU8,zU8,zU8,zU8,zU8,zU8,zI6,zU8,zU8,zU8,zU8,zU8,zU8,zI6,zU8,zU8,zU8,zU8,zU8,zU8]
def zlc:List Value:=[zI6,zU8,zU8,zU8,zU8,zU8,zU8,zU8,zU8,zU3,zU3,zU3,zU3,zU3,zU3,zU3,zU3,zU3,zI6,zI6,zU8,zU8,zU8,zU8,zU8,zU8,zI6,zU8,zU8,zU8,zU8,zU8,zU8,zI6,zU8,zU8,zU8,zU8,zU8,zU8,zI6,zU8,zU8,zU8,zU8,zU8,zU8,zI6,zU8,zU8,zU8,zU8,zU8,zU8,zI6,zU8,zU8,zU8,zU8,zU8,zU8,zI6,zU8,zU8,zU8,zU8,zU8,zU8,zI6,zU8,zU8,zU8,zU8,zU8,zU8,zI6,zU8,zU8,zU8,zU8,zU8,zU8,zI6,zU8,zU8,zU8,zU8,zU8,zU8,zI6,zU8,zU8,zU8,zU8,zU8,zU8,zI6,zU8,zU8,zU8,zU8,zU8,zU8,zI6,zU8,zU8,zU8,zU8,zU8,zU8,zI6,zU8,zU8,zU8,zU8,zU8,zU8,zI6,zU8,zU8,zU8,zU8,zU8,zU8,zI6,zU8,zU8,zU8,zU8,zU8,zU8,zI6,zU8,zU8,zU8,zU8,zU8,zU8,zI6,zU8,zU8,zU8,zU8,zU8,zU8,zI6,zU8,zU8,zU8,zU8,zU8,zU8,zI6,zU8,zU8,zU8,zU8,zU8,zU8,zI6,zU8,zU8,zU8,zU8,zU8,zU8,zI6,zU8,zU8,zU8,zU8,zU8,zU8,zI6,zU8,zU8,zU8,zU8,zU8,zU8,zI6,zU8,zU8,zU8,zU8,zU8,zU8,zU3,zU3,zU3,zU3,zU3,zU3,zU3,zU3,zU3,zU3,zU3,zU3,zU3,zU3,zU3,zU3,zU3,zU3,zU3,zU3,zU3,zU3,zU3,zU3,zU3,zU3,zU3,zU3,zU3,zU3,zU3,zU3,zU3,zU3,zU3,zU3,zU3,zU3,zU3,zU3,zU3,zU3,zU3,zU3,zU3,zU3,zU3,zU3,zU3,zU3,zU3,zU3,zU3,zU3,zU3,zU3,zU3,zU3,zU3,zU3,zU3,zU3,zU3,zU3,zU3,zU3,zU3,zU3,zU3,zU3,zU3,zU3]
def zsN:List Value:=zj3++(zpv++(zpv++zpv))
def tt:TT:=[
 (0,⟨.other,1,false,0,none⟩),
 (3,⟨.int .i64,1,false,8,some [.int .i64 0]⟩),
 (4,⟨.bool,1,false,1,some [.bool false]⟩),
 (5,⟨.int .u8,1,false,1,some [.int .u8 0]⟩),
 (9,⟨.string,1,false,16,some [.string ByteArray.empty]⟩),
 (20,⟨.other,1,false,16,some [.nilIface]⟩),
 (22,⟨.slice 9 1,1,false,24,some [.slice none 0 0]⟩),
 (23,⟨.slice 5 1,1,false,24,some [.slice none 0 0]⟩),
 (24,⟨.slice 64 1,1,false,24,some [.slice none 0 0]⟩),
 (25,⟨.slice 27 5,1,false,24,some [.slice none 0 0]⟩),
 (27,⟨.struct [(0,1,false),(1,1,false),(2,1,false),(3,1,false),(4,1,false)],5,true,32,some [.int .u8 0,.int .u8 0,.int .u8 0,.int .u8 0,.slice none 0 0]⟩),
 (29,⟨.struct [(0,1,false),(1,1,false),(2,1,false),(3,1,false),(4,1,false),(5,5,true)],10,true,128,some [.string ByteArray.empty,.slice none 0 0,.slice none 0 0,.slice none 0 0,.int .u8 0,.int .u8 0,.int .u8 0,.int .u8 0,.int .u8 0,.slice none 0 0]⟩),
 (31,⟨.other,1,false,8,some [.nilFunc]⟩),
 (32,⟨.slice 78 333,1,false,24,some [.slice none 0 0]⟩),
 (33,⟨.int .i64,1,false,8,some [.int .i64 0]⟩),
 (34,⟨.other,1,false,0,none⟩),
 (40,⟨.slice 52 38,1,false,24,some [.slice none 0 0]⟩),
 (42,⟨.other,1,false,0,none⟩),
 (46,⟨.array 2 5 1 false,2,true,2,some [.int .u8 0,.int .u8 0]⟩),
 (47,⟨.slice 46 2,1,false,24,some [.slice none 0 0]⟩),
 (48,⟨.array 8 5 1 false,8,true,8,some (List.replicate 8 (.int .u8 0))⟩),
 (49,⟨.array 4 48 8 true,32,true,32,some (List.replicate 32 (.int .u8 0))⟩),
 (50,⟨.array 6 5 1 false,6,true,6,some (List.replicate 6 (.int .u8 0))⟩),
 (52,⟨.struct [(0,32,true),(32,6,true)],38,true,38,some (List.replicate 38 (.int .u8 0))⟩),
 (54,⟨.array 8 3 1 false,8,true,64,some (List.replicate 8 (.int .i64 0))⟩),
 (55,⟨.array 4 54 8 true,32,true,256,some (List.replicate 32 (.int .i64 0))⟩),
 (57,⟨.other,1,false,0,none⟩),
 (59,⟨.int .u64,1,false,8,some [.int .u64 0]⟩),
 (61,⟨.other,1,false,16,some [.nilIface]⟩),
 (62,⟨.other,1,false,0,none⟩),
 (64,⟨.slice 68 10,1,false,24,some [.slice none 0 0]⟩),
 (66,⟨.struct [(0,1,false),(1,1,false)],2,true,2,some [.bool false,.int .u8 0]⟩),
 (68,⟨.struct [(0,1,false),(1,1,false),(2,1,false),(3,2,true),(5,2,true),(7,1,false),(8,1,false),(9,1,false)],10,true,10,some [.int .u8 0,.int .u8 0,.int .u8 0,.bool false,.int .u8 0,.bool false,.int .u8 0,.int .u8 0,.int .u8 0,.int .u8 0]⟩),
 (70,⟨.other,1,false,8,some [.nilFunc]⟩),
 (72,⟨.slice 80 7,1,false,24,some [.slice none 0 0]⟩),
 (73,⟨.int .u64,1,false,8,some [.int .u64 0]⟩),
 (74,⟨.array 48 73 1 false,48,true,384,some (List.replicate 48 (.int .u64 0))⟩),
 (76,⟨.struct [(0,1,false),(1,48,true)],49,true,392,some zpv⟩),
 (78,⟨.struct [(0,1,false),(1,49,true),(50,49,true),(99,49,true),(148,49,true),(197,49,true),(246,49,true),(295,38,true)],333,true,2416,some zj3⟩),
 (80,⟨.struct [(0,1,false),(1,1,false),(2,1,false),(3,1,false),(4,1,false),(5,1,false),(6,1,false)],7,true,16,some [.int .i64 0,.int .u8 0,.int .u8 0,.int .u8 0,.int .u8 0,.int .u8 0,.int .u8 0]⟩),
 (81,⟨.other,1,false,8,some [.nilFunc]⟩),
 (83,⟨.other,1,false,0,none⟩),
 (85,⟨.slice 92 336,1,false,24,some [.slice none 0 0]⟩),
 (86,⟨.other,1,false,0,none⟩),
 (88,⟨.ptr 29,1,false,8,some [.pointer none]⟩),
 (89,⟨.slice 3 1,1,false,24,some [.slice none 0 0]⟩),
 (90,⟨.slice 89 1,1,false,24,some [.slice none 0 0]⟩),
 (92,⟨.struct [(0,333,true),(333,1,false),(334,1,false),(335,1,false)],336,true,2488,some zcm⟩),
 (95,⟨.other,1,false,8,some [.nilFunc]⟩),
 (96,⟨.other,1,false,8,some [.nilFunc]⟩),
 (100,⟨.slice 101 1,1,false,24,some [.slice none 0 0]⟩),
 (101,⟨.slice 145 12,1,false,24,some [.slice none 0 0]⟩),
 (111,⟨.other,1,false,0,none⟩),
 (117,⟨.slice 120 2,1,false,24,some [.slice none 0 0]⟩),
 (120,⟨.struct [(0,1,false),(1,1,false)],2,true,16,some [.int .i64 0,.nilFunc]⟩),
 (121,⟨.array 8 4 1 false,8,true,8,some (List.replicate 8 (.bool false))⟩),
 (129,⟨.ptr 76,1,false,8,some [.pointer none]⟩),
 (130,⟨.slice 129 1,1,false,24,some [.slice none 0 0]⟩),
 (134,⟨.ptr 78,1,false,8,some [.pointer none]⟩),
 (137,⟨.other,1,false,0,none⟩),
 (139,⟨.other,1,false,0,none⟩),
 (141,⟨.other,1,false,8,some [.nilFunc]⟩),
 (142,⟨.other,1,false,8,some [.nilFunc]⟩),
 (145,⟨.struct [(0,1,false),(1,1,false),(2,1,false),(3,1,false),(4,8,true)],12,true,104,some [.slice none 0 0,.slice none 0 0,.slice none 0 0,.slice none 0 0,.int .u8 0,.int .u8 0,.int .u8 0,.int .u8 0,.int .u8 0,.int .u8 0,.int .u8 0,.int .u8 0]⟩),
 (146,⟨.other,1,false,0,none⟩),
 (148,⟨.ptr 92,1,false,8,some [.pointer none]⟩),
 (149,⟨.slice 90 1,1,false,24,some [.slice none 0 0]⟩),
 (165,⟨.ptr 235,1,false,8,some [.pointer none]⟩),
 (167,⟨.other,1,false,8,some [.nilFunc]⟩),
 (172,⟨.other,1,false,8,some [.nilFunc]⟩),
 (173,⟨.other,1,false,8,some [.nilFunc]⟩),
 (186,⟨.int .u64,1,false,8,some [.int .u64 0]⟩),
 (190,⟨.other,1,false,8,some [.nilFunc]⟩),
 (192,⟨.other,1,false,0,none⟩),
 (195,⟨.other,1,false,8,some [.nilFunc]⟩),
 (198,⟨.array 256 4 1 false,256,true,256,some (List.replicate 256 (.bool false))⟩),
 (199,⟨.other,1,false,8,some [.nilFunc]⟩),
 (200,⟨.other,1,false,8,some [.nilFunc]⟩),
 (202,⟨.ptr 209,1,false,8,some [.pointer none]⟩),
 (203,⟨.int .u32,1,false,4,some [.int .u32 0]⟩),
 (204,⟨.int .u32,1,false,4,some [.int .u32 0]⟩),
 (205,⟨.array 8 204 1 false,8,true,32,some (List.replicate 8 (.int .u32 0))⟩),
 (206,⟨.array 24 80 7 true,168,true,384,some zsO⟩),
 (207,⟨.array 24 204 1 false,24,true,96,some (List.replicate 24 (.int .u32 0))⟩),
 (209,⟨.struct [(0,1,false),(1,8,true),(9,8,true),(17,1,false),(18,1,false),(19,168,true),(187,24,true),(211,24,true),(235,24,true)],259,true,736,some zlc⟩),
 (211,⟨.other,1,false,8,some [.nilFunc]⟩),
 (215,⟨.other,1,false,0,none⟩),
 (218,⟨.other,1,false,8,some [.nilFunc]⟩),
 (219,⟨.other,1,false,8,some [.nilFunc]⟩),
 (221,⟨.other,1,false,0,none⟩),
 (232,⟨.map 300 237,1,false,8,some [.map none]⟩),
 (233,⟨.map 5 167,1,false,8,some [.map none]⟩),
 (235,⟨.struct [(0,1,false),(1,1,false)],2,true,16,some [.map none,.map none]⟩),
 (237,⟨.struct [(0,1,false),(1,1,false)],2,true,2,some [.bool false,.bool false]⟩),
 (239,⟨.other,1,false,0,none⟩),
 (244,⟨.other,1,false,8,some [.nilFunc]⟩),
 (246,⟨.other,1,false,0,none⟩),
 (250,⟨.slice 40 1,1,false,24,some [.slice none 0 0]⟩),
 (255,⟨.slice 260 3,1,false,24,some [.slice none 0 0]⟩),
 (256,⟨.other,1,false,0,none⟩),
 (258,⟨.int .u8,1,false,1,some [.int .u8 0]⟩),
 (260,⟨.struct [(0,1,false),(1,1,false),(2,1,false)],3,true,32,some [.int .u8 0,.string ByteArray.empty,.int .i64 0]⟩),
 (263,⟨.struct [(0,10,true),(10,1,false),(11,1,false)],12,true,32,some [.int .u8 0,.int .u8 0,.int .u8 0,.bool false,.int .u8 0,.bool false,.int .u8 0,.int .u8 0,.int .u8 0,.int .u8 0,.int .i64 0,.int .i64 0]⟩),
 (264,⟨.slice 31 1,1,false,24,some [.slice none 0 0]⟩),
 (267,⟨.ptr 27,1,false,8,some [.pointer none]⟩),
 (278,⟨.other,1,false,8,some [.nilFunc]⟩),
 (279,⟨.other,1,false,8,some [.nilFunc]⟩),
 (282,⟨.other,1,false,8,some [.nilFunc]⟩),
 (284,⟨.other,1,false,8,some [.nilFunc]⟩),
 (287,⟨.slice 204 1,1,false,24,some [.slice none 0 0]⟩),
 (300,⟨.struct [(0,1,false),(1,1,false),(2,1,false)],3,true,24,some [.pointer none,.int .i64 0,.int .i64 0]⟩),
 (301,⟨.other,1,false,0,none⟩),
 (303,⟨.other,1,false,0,none⟩),
 (305,⟨.slice 76 49,1,false,24,some [.slice none 0 0]⟩),
 (309,⟨.ptr 311,1,false,8,some [.pointer none]⟩),
 (311,⟨.struct [(0,333,true),(333,49,true),(382,49,true),(431,49,true)],480,true,3592,some zsN⟩),
 (313,⟨.other,1,false,8,some [.nilFunc]⟩),
 (315,⟨.struct [(0,1,false)],1,true,8,some [.nilFunc]⟩),
 (316,⟨.array 7 315 1 true,7,true,56,some (List.replicate 7 (.nilFunc))⟩),
 (319,⟨.int .i64,1,false,8,some [.int .i64 0]⟩),
 (320,⟨.other,1,false,0,none⟩),
 (329,⟨.struct [(0,1,false),(1,1,false)],2,true,24,some [.string ByteArray.empty,.int .i64 0]⟩),
 (331,⟨.struct [(0,2,true),(2,1,false)],3,true,32,some [.string ByteArray.empty,.int .i64 0,.bool false]⟩),
 (332,⟨.other,1,false,8,some [.nilFunc]⟩),
 (333,⟨.other,1,false,8,some [.nilFunc]⟩),
 (337,⟨.ptr 263,1,false,8,some [.pointer none]⟩),
 (370,⟨.other,1,false,0,none⟩),
 (380,⟨.ptr 331,1,false,8,some [.pointer none]⟩),
 (381,⟨.other,1,false,8,some [.nilFunc]⟩),
 (382,⟨.other,1,false,0,none⟩),
 (385,⟨.array 9 5 1 false,9,true,9,some (List.replicate 9 (.int .u8 0))⟩),
 (393,⟨.array 64 5 1 false,64,true,64,some (List.replicate 64 (.int .u8 0))⟩),
 (396,⟨.other,1,false,8,some [.nilFunc]⟩),
 (397,⟨.array 9 396 1 false,9,true,72,some (List.replicate 9 (.nilFunc))⟩),
 (399,⟨.array 32 5 1 false,32,true,32,some (List.replicate 32 (.int .u8 0))⟩),
 (405,⟨.ptr 329,1,false,8,some [.pointer none]⟩),
 (406,⟨.other,1,false,8,some [.nilFunc]⟩),
 (410,⟨.other,1,false,0,none⟩)]
theorem tk{P:Program}{t:Nat}{i:TI}(h1:(P.info? t).map (fun x=>(x.size,x.bytes))=some (i.size,i.bytes):=by kernel_rfl)
  (h2:∀z,i.zero=some z->((P.info? t).bind (fun x=>x.zero)).map (fun v=>v.cells.toList)=some z:=by intro z h;cases h;first | done | kernel_rfl) (h3:zoW P t i=true:=by kernel_rfl):TIok P t i:=ztq h1 h2 h3
theorem qS:TTok PG tt :=
 .cons tk (
 .cons tk (
 .cons tk (
 .cons tk (
 .cons tk (
 .cons tk (
 .cons tk (
 .cons tk (
 .cons tk (
 .cons tk (
 .cons tk (
 .cons tk (
 .cons tk (
 .cons tk (
 .cons tk (
 .cons tk (
 .cons tk (
 .cons tk (
 .cons tk (
 .cons tk (
 .cons tk (
 .cons tk (
 .cons tk (
 .cons tk (
 .cons tk (
 .cons tk (
 .cons tk (
 .cons tk (
 .cons tk (
 .cons tk (
 .cons tk (
 .cons tk (
 .cons tk (
 .cons tk (
 .cons tk (
 .cons tk (
 .cons tk (
 .cons tk (
 .cons tk (
 .cons tk (
 .cons tk (
 .cons tk (
 .cons tk (
 .cons tk (
 .cons tk (
 .cons tk (
 .cons tk (
 .cons tk (
 .cons tk (
 .cons tk (
 .cons tk (
 .cons tk (
 .cons tk (
 .cons tk (
 .cons tk (
 .cons tk (
 .cons tk (
 .cons tk (
 .cons tk (
 .cons tk (
 .cons tk (
 .cons tk (
 .cons tk (
 .cons tk (
 .cons tk (
 .cons tk (
 .cons tk (
 .cons tk (
 .cons tk (
 .cons tk (
 .cons tk (
 .cons tk (
 .cons tk (
 .cons tk (
 .cons tk (
 .cons tk (
 .cons tk (
 .cons tk (
 .cons tk (
 .cons tk (
 .cons tk (
 .cons tk (
 .cons tk (
 .cons tk (
 .cons tk (
 .cons tk (
 .cons tk (
 .cons tk (
 .cons tk (
 .cons tk (
 .cons tk (
 .cons tk (
 .cons tk (
 .cons tk (
 .cons tk (
 .cons tk (
 .cons tk (
 .cons tk (
 .cons tk (
 .cons tk (
 .cons tk (
 .cons tk (
 .cons tk (
 .cons tk (
 .cons tk (
 .cons tk (
 .cons tk (
 .cons tk (
 .cons tk (
 .cons tk (
 .cons tk (
 .cons tk (
 .cons tk (
 .cons tk (
 .cons tk (
 .cons tk (
 .cons tk (
 .cons tk (
 .cons tk (
 .cons tk (
 .cons tk (
 .cons tk (
 .cons tk (
 .cons tk (
 .cons tk (
 .cons tk (
 .cons tk (
 .cons tk (
 .cons tk (
 .cons tk (
 .cons tk (
 .cons tk (
 .cons tk (
 .cons tk (
 .cons tk (
 .cons tk (
 .cons tk (
 .cons tk (
 .nil))))))))))))))))))))))))))))))))))))))))))))))))))))))))))))))))))))))))))))))))))))))))))))))))))))))))))))))))))))))))))))))))))))))))))
theorem zsw:zo2 PG 3 365 [180,182,249,250,252,334,335,336,337,338,339,340,341,342,343,344,345,346,347,348,349,350,351,352,353,354,355,356,357,358,359,360,361,362,363]=true:=by kernel_rfl
theorem mixed:Tryz.prog.follows .mixedOrders=true:=by kernel_rfl
@[reducible] noncomputable def sg (n:Nat):Sig:=⟨PG,tt,n,3,365,none,[180,182,249,250,252,334,335,336,337,338,339,340,341,342,343,344,345,346,347,348,349,350,351,352,353,354,355,356,357,358,359,360,361,362,363]⟩
theorem zes(n:Nat):SigOk (sg n):=⟨fun t i h=>qS.get t i h,zsx zsw,mixed⟩
abbrev k0:=qS.get 0 _ rfl
abbrev k3:=qS.get 3 _ rfl
abbrev k4:=qS.get 4 _ rfl
abbrev k5:=qS.get 5 _ rfl
abbrev k9:=qS.get 9 _ rfl
abbrev k23:=qS.get 23 _ rfl
abbrev k27:=qS.get 27 _ rfl
abbrev k29:=qS.get 29 _ rfl
abbrev k32:=qS.get 32 _ rfl
abbrev k33:=qS.get 33 _ rfl
abbrev k46:=qS.get 46 _ rfl
abbrev k48:=qS.get 48 _ rfl
abbrev k52:=qS.get 52 _ rfl
abbrev k66:=qS.get 66 _ rfl
abbrev k68:=qS.get 68 _ rfl
abbrev k72:=qS.get 72 _ rfl
abbrev k73:=qS.get 73 _ rfl
abbrev k76:=qS.get 76 _ rfl
abbrev k78:=qS.get 78 _ rfl
abbrev k80:=qS.get 80 _ rfl
abbrev k85:=qS.get 85 _ rfl
abbrev k89:=qS.get 89 _ rfl
abbrev k90:=qS.get 90 _ rfl
abbrev k92:=qS.get 92 _ rfl
abbrev ztG:=qS.get 100 _ rfl
abbrev zqi:=qS.get 101 _ rfl
abbrev zmM:=qS.get 120 _ rfl
abbrev ztF:=qS.get 121 _ rfl
abbrev zmL:=qS.get 145 _ rfl
abbrev ztE:=qS.get 149 _ rfl
abbrev ztD:=qS.get 165 _ rfl
abbrev ztC:=qS.get 173 _ rfl
abbrev zrY:=qS.get 204 _ rfl
abbrev ztB:=qS.get 209 _ rfl
abbrev ztA:=qS.get 233 _ rfl
abbrev zor:=qS.get 237 _ rfl
abbrev zqh:=qS.get 255 _ rfl
abbrev zji:=qS.get 260 _ rfl
abbrev ztz:=qS.get 263 _ rfl
abbrev zty:=qS.get 300 _ rfl
abbrev ztx:=qS.get 309 _ rfl
abbrev zs5:=qS.get 316 _ rfl
abbrev ztw:=qS.get 331 _ rfl
abbrev ztv:=qS.get 397 _ rfl
abbrev CB (f:FuncId) (args:Array Value) (w:Wd) (v:Value):Prop:=Calls PG f args w fun e w'=>e = .returned v/\Below w.heap.size w w'
theorem qg(n:Nat)(args:List Value)(m:Mk){f:FuncId}{fn:Func}{c:Code}{w:Wd}{R:Ending->Wd->Prop}(hf:Tryz.prog.funcs[f]?=some fn)(h:wpM (sg n) m c ⟨zdd 0 args,[]⟩ w (zlq (sg n) fn R))(hb:fn.body=some c:=by rfl)(hn:fn.ntmps=n:=by rfl)(hle:args.length<=n:=by exact JN rfl):Calls PG f args.toArray w R:=zkZ (S:=sg n) (zes _) m hf hb hn hle rfl h
theorem zC(n:Nat)(args:List Value){f:FuncId}{fn:Func}{c:Code}{w:Wd}{R:Ending->Wd->Prop}(hf:Tryz.prog.funcs[f]?=some fn)(h:wpE (sg n) c ⟨zdd 0 args,[]⟩ w (zlq (sg n) fn R))(hb:fn.body=some c:=by rfl)(hn:fn.ntmps=n:=by rfl)(hle:args.length<=n:=by exact JN rfl):Calls PG f args.toArray w R:=zk0 (S:=sg n) (zes _) hf hb hn hle rfl h
end Go.Proofs.YtakcdebpklffiaaGreatDoor
namespace Go.Proofs.YtakcdebpklffiaaGreatDoor
open Go.Vc Go.RowKit Go.Sei
def zeS (x y:UInt8):Int:=if x.toNat<y.toNat then -1 else if y.toNat<x.toNat then 1 else 0
def q8:List UInt8->List UInt8->Int
 | [],[]=>0
 | [],_::_ => -1
 | _::_,[]=>1
 | x::r,y::s=>if x=y then q8 r s else zeS x y
def zN:Enc UInt8:=⟨fun b=>[u8 b],1,fun _=>rfl,by decide,fun a u hu=>by
 simp only[Ur,Qm,Ga] at hu;subst hu;rfl⟩
theorem zl0{w:Wd}{p:OA}{l:List UInt8}(h:SlR zN w p l){k:Nat}(hk:k<l.length):∃b o,p=some ⟨b,o,none⟩/\b<w.heap.size/\w.cell? ⟨b,o+k*1,none⟩=some (u8 l[k]):=by
 obtain⟨b,o,rfl,a,c⟩:=h.at hk;exact⟨b,o,rfl,a,jt (c k hk)⟩
theorem zhz:∀(l1 l2:List UInt8) (k:Nat),k<=l1.length->k<=l2.length->l1.take k=l2.take k->q8 l1 l2=q8 (l1.drop k) (l2.drop k)
 | l1,l2,0,_,_,_=>by simp
 | [],_,k+1,h,_,_=>by simp at h
 | _::_,[],k+1,_,h,_=>by simp at h
 | x::r,y::s,k+1,h1,h2,h3=>by
  simp at h1 h2 h3;rw[q8,Gd h3.1,List.drop_succ_cons,List.drop_succ_cons];exact zhz r s k h1 h2 h3.2
theorem zlY{x y:UInt8}(h:x≠y):zeS x y≠0:=by
 have:x.toNat≠y.toNat:=fun e=>h (QW.1 e);unfold zeS;split
 ·decide
 ·split
  ·decide
  ·omega
theorem zm4(x:UInt8):zeS x x=0:=by simp[zeS]
theorem zqW{x y:UInt8}:zeS x y<0↔x.toNat<y.toNat:=by
 unfold zeS;split
 ·simp_all
 ·split
  ·simp;omega
  ·simp;omega
theorem zeR:∀l,q8 l l=0
 | []=>rfl
 | x::r=>by rw [q8,Gd rfl];exact zeR r
theorem zaX{x y:UInt8}{r s:List UInt8}:q8 (x::r) (y::s)<0↔x.toNat<y.toNat\/(x=y/\q8 r s<0):=by
 rw[q8];split
 ·rename_i h;subst h;simp
 ·rename_i h;rw[zqW];simp[h]
theorem zdF:∀l1 l2,q8 l1 l2<0\/q8 l2 l1<0\/l1=l2
 | [],[]=>by simp
 | [],_::_ => .inl (by simp [q8])
 | _::_,[] => .inr (.inl (by simp [q8]))
 | x::r,y::s=>by
  rw[zaX,zaX];rcases Nat.lt_trichotomy x.toNat y.toNat with h | h | h
  ·exact .inl (.inl h)
  ·have e:x=y:=QW.1 h;subst e;rcases zdF r s with h | h | h
   ·exact .inl (.inr ⟨rfl,h⟩)
   ·exact .inr (.inl (.inr ⟨rfl,h⟩))
   ·exact .inr (.inr (by rw[h]))
  ·exact .inr (.inl (.inl h))
theorem zgC:∀l1 l2 l3,q8 l1 l2<0->q8 l2 l3<0->q8 l1 l3<0
 | [],[],_,h,_=>by simp [q8] at h
 | _::_,[],_,h,_=>by simp [q8] at h
 | [],_::_,[],_,h=>by simp [q8] at h
 | [],_::_,_::_,_,_=>by simp [q8]
 | _::_,_::_,[],_,h=>by simp [q8] at h
 | x::r,y::s,z::t,b,a=>by
  rw[zaX] at *;rcases b with b | ⟨rfl,b⟩
  ·rcases a with a | ⟨rfl,a⟩
   ·exact .inl (by omega)
   ·exact .inl b
  ·rcases a with a | ⟨rfl,a⟩
   ·exact .inl a
   ·exact .inr ⟨rfl,zgC r s t b a⟩
theorem zjM:∀{a b c d:List UInt8},a.length=b.length->q8 (a++c) (b++d)=if a=b then q8 c d else q8 a b
 | [],[],_,_,_=>by simp
 | [],_::_,_,_,h=>by simp at h
 | _::_,[],_,_,h=>by simp at h
 | x::r,y::s,c,d,h=>by
  rw[Qc,Qc,q8,q8];by_cases g:x=y
  ·subst g;rw[Gd rfl,Gd rfl,zjM (by simpa using h)];by_cases f:r=s
   ·rw[Gd f,Gd (by rw[f])]
   ·rw[Gc f,Gc (fun e=>f (List.cons.inj e).2)]
  ·rw[Gc g,Gc g,Gc (fun e=>g (List.cons.inj e).1)]
theorem zhy{a b:List UInt8}:q8 a b=0↔a=b:=by
 constructor
 ·intro h;rcases zdF a b with c | c | c
  ·omega
  ·have d:q8 a b<0\/¬q8 a b<0:=Decidable.em _
   exfalso
   clear d
   revert c h
   induction a generalizing b with
   | nil=>cases b with
    | nil=>simp [q8]
    | cons y s=>simp [q8]
   | cons x r ih=>cases b with
    | nil=>simp [q8]
    | cons y s =>
     rw[q8,zaX];by_cases e:x=y
     ·subst e;rw[Gd rfl];rintro h (c | ⟨_,c⟩)
      ·omega
      ·exact ih h c
     ·rw[Gc e];exact fun h=>Ge h (zlY e)
  ·exact c
 ·rintro rfl;exact zeR _
structure FinV where
 l:List UInt8
 len:l.length=38
 deriving DecidableEq
instance:Inhabited FinV:=⟨⟨List.replicate 38 0,by simp⟩⟩
theorem FinV.ext'{a b:FinV}(h:a.l=b.l):a=b:=by cases a;cases b;cases h;rfl
def zA:Enc FinV:=⟨fun f=>f.l.map u8,38,fun f=>by rw[QD,f.len],by decide,fun f u hu=>by
 obtain⟨b,_,rfl⟩:=Uz.1 hu;rfl⟩
def FinV.reg (f:FinV) (t r:Nat):UInt8:=f.l.getD (t*8+r) 0
def FinV.mem (f:FinV) (i:Nat):UInt8:=f.l.getD (32+i) 0
def zey (a b:FinV):Int:=q8 a.l b.l
def ltF (a b:FinV):Bool:=decide (zey a b<0)
theorem zd4(a:FinV):ltF a a=false:=QX (by unfold zey;rw[zeR];decide)
theorem zcV{a b c:FinV}(h1:ltF a b=true)(h2:ltF b c=true):ltF a c=true:=Uh (zgC _ _ _ (dT h1) (dT h2))
theorem zeE(a b:FinV):ltF a b=true\/ltF b a=true\/a=b:=by
 rcases zdF a.l b.l with h | h | h
 ·exact .inl (Uh h)
 ·exact .inr (.inl (Uh h))
 ·exact .inr (.inr (FinV.ext' h))
theorem zje{a b:FinV}(h:ltF a b=true):ltF b a=false:=by
 cases h2:ltF b a with
 | false=>rfl
 | true=>have:=zcV h h2;rw [zd4] at this;cases this
def leF (a b:FinV):Bool := !ltF b a
theorem zho(a b c:FinV)(h1:leF a b=true)(h2:leF b c=true):leF a c=true:=by
 unfold leF at *;rw[KC] at *
 cases h:ltF c a with
 | false=>rfl
 | true =>
  rcases zeE a b with d | d | rfl
  ·have:=zcV h d;rw[this] at h2;cases h2
  ·rw[d] at h1;cases h1
  ·rw[h] at h2;cases h2
theorem zmH(a b:FinV):(leF a b||leF b a)=true:=by
 unfold leF
 cases h:ltF b a with
 | false=>rfl
 | true=>rw [zje h];rfl
def zbT:List FinV->List FinV
 | []=>[]
 | a::r=>match zbT r with
  | []=>[a]
  | b::s=>if a=b then b::s else a::b::s
def zfK (l:List FinV):List FinV:=l.mergeSort leF
def zaR (l:List FinV):List FinV:=zbT (zfK l)
abbrev Inc (l:List FinV):Prop:=l.Pairwise fun a b=>ltF a b=true
theorem zgA{x:FinV}:∀{l:List FinV},x∈zbT l↔x∈l
 | []=>Iff.rfl
 | a::r=>by
  have c:=zgA (x:=x) (l:=r);unfold zbT
  cases h:zbT r with
  | nil=>rw [h] at c;simp only [Ur,<- c]
  | cons b s =>
   rw[h] at c;dsimp only
   split
   ·rename_i e;subst e;rw[Ur,Ur,<- c,Ur];constructor
    ·exact fun h => .inr h
    ·rintro(h | h)
     ·exact .inl h
     ·exact h
   ·rw[Ur,c,Ur]
theorem zjH:∀{l:List FinV},l.Pairwise (fun a b=>leF a b=true)->Inc (zbT l)
 | [],_=>List.Pairwise.nil
 | a::r,h=>by
  obtain⟨k,j⟩:=List.pairwise_cons.1 h;have c:=zjH j;have i:=fun x=>zgA (x:=x) (l:=r);unfold zbT
  cases e:zbT r with
  | nil=>exact List.pairwise_singleton _ _
  | cons b s =>
   rw[e] at c i;dsimp only
   split
   ·exact c
   ·rename_i f;refine List.pairwise_cons.2 ⟨fun x g=>?_,c⟩;have d:=k b ((i b).1 (Ku ..));have hlt:ltF a b=true:=by
     unfold leF at d;rw[KC] at d;rcases zeE a b with h | h | h
     ·exact h
     ·rw[h] at d;cases d
     ·exact Ge h f
    rcases Ur.1 g with rfl | g
    ·exact hlt
    ·exact zcV hlt ((List.pairwise_cons.1 c).1 x g)
theorem ziI(l:List FinV):(zfK l).Pairwise (fun a b=>leF a b=true):=List.pairwise_mergeSort zho zmH l
theorem znG{x:FinV}{l:List FinV}:x∈zfK l↔x∈l:=(List.mergeSort_perm l leF).mem_iff
theorem zer(l:List FinV):Inc (zaR l):=zjH (ziI l)
theorem zeq{x:FinV}{l:List FinV}:x∈zaR l↔x∈l:=zgA.trans znG
theorem zdv:∀{a b:List FinV},Inc a->Inc b->(∀x,x∈a↔x∈b)->a=b
 | [],[],_,_,_=>rfl
 | [],y::s,_,_,h=>Ge ((h y).2 (Ku ..)) (by simp)
 | x::r,[],_,_,h=>Ge ((h x).1 (Ku ..)) (by simp)
 | x::r,y::s,ha,hb,h=>by
  obtain⟨i,j⟩:=List.pairwise_cons.1 ha;obtain⟨f,o⟩:=List.pairwise_cons.1 hb;have e:x=y:=by
   rcases Ur.1 ((h x).1 (Ku ..)) with e | k
   ·exact e
   ·rcases Ur.1 ((h y).2 (Ku ..)) with e | l
    ·exact e.symm
    ·have m:=f x k;have g:=i y l;rw[zje m] at g;cases g
  subst e;have n:r=s:=zdv j o fun z=>by
   constructor
   ·intro d;rcases Ur.1 ((h z).1 (JR _ d)) with e | c
    ·subst e;have:=i z d;rw[zd4] at this;cases this
    ·exact c
   ·intro d;rcases Ur.1 ((h z).2 (JR _ d)) with e | c
    ·subst e;have:=f z d;rw[zd4] at this;cases this
    ·exact c
  rw[n]
theorem zmN{a:List FinV}(h:Inc a):a.Nodup:=h.imp fun b e=>by subst e;rw[zd4] at b;cases b
theorem zfL{a:List FinV}(h:Inc a):zaR a=a:=zdv (zer a) h fun x=>zeq
end Go.Proofs.YtakcdebpklffiaaGreatDoor
namespace Go.Sei
def ze6 (c:UInt8):Bool:=(decide ((97:Int)<=c.toNat)&&decide ((c.toNat:Int)<=122))||(decide ((65:Int)<=c.toNat)&&decide ((c.toNat:Int)<=90))
def zgg (c:UInt8):Bool:=decide ((48:Int)<=c.toNat)&&decide ((c.toNat:Int)<=57)
def eqB (c:UInt8) (k:Int):Bool:=decide ((c.toNat:Int)=k)
def zlC (c:UInt8):Bool:=eqB c 61||(eqB c 43||(eqB c 45||(eqB c 94||(eqB c 38||(eqB c 124||(eqB c 33||(eqB c 40||(eqB c 41||(eqB c 58||eqB c 60)))))))))
def zY (c:UInt8):Nat :=
 bif ze6 c then 3 else bif zgg c then 4 else bif eqB c 32||eqB c 9 then 1 else bif eqB c 10 then 2 else bif eqB c 95 then 5 else bif eqB c 35 then 7 else bif zlC c then 6 else 0
def qi (c:UInt8):Bool:=decide (zY c=3)||(decide (zY c=4)||decide (zY c=5))
def jj (p:UInt8->Bool):List UInt8->Nat
 | []=>0
 | c::r=>if p c then jj p r+1 else 0
theorem ziN(p:UInt8->Bool):∀l,jj p l<=l.length
 | []=>UN _
 | c::r=>by
  unfold jj
  split
  ·exact Nat.succ_le_succ (ziN p r)
  ·exact UP _
def ziq (c:UInt8):Bool:=decide (zY c=1)
def zc9 (c:UInt8):Bool := !decide (zY c=2)
def zaQ (c:UInt8):Bool:=decide (zY c=4)
def zbx (s:List UInt8) (a:Nat):Nat:=a+jj ziq (s.drop a)
def zH (s:List UInt8) (a:Nat):Nat :=
 match s[zbx s a]? with
 | some c=>if zY c=7 then zbx s a+jj zc9 (s.drop (zbx s a)) else zbx s a
 | none=>zbx s a
structure Tok where
 kind:UInt8
 text:List UInt8
 pos:Nat
 deriving DecidableEq
def zat (s:List UInt8) (a:Nat) (c:UInt8):Nat :=
 if zY c=3 then a+1+jj qi (s.drop (a+1)) else if zY c=4 then a+1+jj zaQ (s.drop (a+1)) else
  if(eqB c 61||eqB c 33)&&decide (s[a+1]?=some 61) then a+2 else a+1
def ze5 (c:UInt8):UInt8:=if zY c=3 then 1 else if zY c=4 then 2 else 3
def ziG (s:List UInt8) (a:Nat) (c:UInt8):Tok:=⟨ze5 c,(s.drop a).take (zat s a c-a),a⟩
def jA (s:List UInt8) (a:Nat):Bool:=match s[a]? with
 | some c=>decide (zY c=2)
 | none=>true
def jQ (s:List UInt8):Nat->Nat->Bool->Option (Tok×Nat×Bool)
 | 0,_,_=>none
 | f+1,a,op=>match s[zH s a]? with
  | some c=>if zY c=2 then (if op then some (⟨4,[],zH s a⟩,min (zH s a+1) s.length,false) else jQ s f (min (zH s a+1) s.length) false)
   else some (ziG s (zH s a) c,zat s (zH s a) c,true)
  | none=>if op then some (⟨4,[],zH s a⟩,min (zH s a+1) s.length,false) else none
def zbL (s:List UInt8):Nat->Nat->Bool->List Tok
 | 0,_,_=>[]
 | f+1,a,op=>match jQ s (s.length+2) a op with
  | some (t,a',op')=>t::zbL s f a' op'
  | none=>[]
def zh2 (s:List UInt8):Bool:=decide (1<=s.length)&&(decide (s.length<=3)&&(!(decide (s.head?=some 48)&&decide (1<s.length))&&(s.all zaQ&&decide (s.foldl (fun v c=>10*v+(c.toNat-48)) 0<=255))))
def qV (t:Tok):Int :=
 if t.kind=1 then(if 16<t.text.length then 42 else 0) else if t.kind=2 then(if zh2 t.text then 0 else 41) else
 if t.kind=3 then(match t.text with | c::_=>if zY c=6 then 0 else 40 | []=>0) else 0
def qz (s:List UInt8):List Tok:=zbL s (2*s.length+3) 0 false
def znw (l:List Tok) (s:List UInt8):Bool:=match l with
 | [t,_]=>decide (t.kind=1)&&decide (t.text=s)
 | _=>false
def zcX (s:List UInt8):Bool:=decide (s.length<=16384)&&((qz s).all (fun t=>decide (qV t=0))&&znw (qz s) s)
structure InsD where
 op:UInt8
 dst:UInt8
 loc:UInt8
 ar:Bool
 an:UInt8
 br:Bool
 bn:UInt8
 fn:UInt8
 mode:UInt8
 skip:UInt8
 deriving DecidableEq
inductive Cnd where
 | mk (kind thread n val:UInt8) (kids:List Cnd)
def Cnd.kind:Cnd->UInt8 | .mk k _ _ _ _=>k
def Cnd.thread:Cnd->UInt8 | .mk _ t _ _ _=>t
def Cnd.n:Cnd->UInt8 | .mk _ _ n _ _=>n
def Cnd.val:Cnd->UInt8 | .mk _ _ _ v _=>v
def Cnd.kids:Cnd->List Cnd | .mk _ _ _ _ l=>l
structure Prg where
 name:List UInt8
 locs:List (List UInt8)
 init:List UInt8
 threads:List (List InsD)
 ask:UInt8
 cond:Cnd
def zrq:List (List UInt8):=[[116,101,115,116],[105,110,105,116],[116,104,114,101,97,100],[115,111,109,101],[110,111,110,101],[97,108,108],[97,99,113],[114,101,108],[115,119,97,112],[102,101,116,99,104],[99,97,115],
 [102,101,110,99,101],[108,111,97,100,115],[115,116,111,114,101,115],[115,107,105,112],[105,102],[116,114,117,101]]
def zgf (s:List UInt8):Bool:=zrq.any fun k=>decide (s=k)
def qy (s:List UInt8):Nat:=(s.filter zaQ).length
def zaI (s:List UInt8):Bool:=match s with
 | []=>false
 | c::r=>decide (r.length+1<=16)&&(decide (zY c=3)&&(!zgf (c::r)&&(r.all qi&&(!decide (c=114)||(decide (qy r=0)||decide (qy r<r.length))))))
def zbd:List (List UInt8)->List (List UInt8)->Bool
 | _,[]=>true
 | pre,s::r=>zaI s&&(!(pre.any fun q=>decide (q=s))&&zbd (pre++[s]) r)
def zcD (p:Prg):Bool:=decide (1<=p.locs.length)&&(decide (p.locs.length<=6)&&(decide (p.init.length=p.locs.length)&&zbd [] p.locs))
def zdZ:List UInt8:=[0,35,38,29,7,7,15,32,92]
def jc (op bit:UInt8):Bool := !decide (zdZ.getD op.toNat 0&&&bit=0)
def zfo (x:InsD):InsD where
 op:=x.op
 dst:=if jc x.op 1 then x.dst else 0
 loc:=if jc x.op 2 then x.loc else 0
 ar:=jc x.op 4&&x.ar
 an:=if jc x.op 4 then x.an else 0
 br:=jc x.op 8&&x.br
 bn:=if jc x.op 8 then x.bn else 0
 fn:=if jc x.op 16 then x.fn else 0
 mode:=if jc x.op 32 then x.mode else 0
 skip:=if jc x.op 64 then x.skip else 0
def zd1 (x:InsD):Bool:=if x.op=1 then decide (x.mode=0)||decide (x.mode=1) else if x.op=2 then decide (x.mode=0)||decide (x.mode=2) else
 if x.op=7 then decide (x.mode=3)||(decide (x.mode=4)||decide (x.mode=5)) else true
def fnL (x:InsD):Bool:=if x.op=3 then decide (x.fn=1)||(decide (x.fn=2)||decide (x.fn=3)) else if x.op=8 then decide (x.fn=4)||(decide (x.fn=5)||decide (x.fn=6)) else true
def zk4 (r:Bool) (n:UInt8):Bool := !r||decide (n.toNat<8)
def qw (x:InsD) (locs after:Nat):List Bool:=[
 decide (1<=x.op.toNat)&&decide (x.op.toNat<=8),
 decide (x=zfo x),
 decide (x.dst.toNat<8),
 !jc x.op 2||decide (x.loc.toNat<locs),
 zk4 x.ar x.an&&zk4 x.br x.bn,
 zd1 x,
 fnL x,
 !jc x.op 64||(decide (1<=x.skip.toNat)&&decide (x.skip.toNat<=after))]
def zoB (x:InsD) (locs after:Nat):Bool:=(qw x locs after).all id
def qX (l:List InsD) (locs:Nat):Bool:=decide (l.length<=12)&&(List.range l.length).all fun i=>match l[i]? with
 | some x=>zoB x locs (l.length-1-i)
 | none=>true
def jU (threads locs:Nat):Nat->Cnd->Bool
 | 0,_=>false
 | d+1,.mk k t n v kids =>
  let bare:=decide (t=0)&&(decide (n=0)&&decide (v=0))
  if k=0 then bare&&decide (kids.length=0) else
  if k=1 then decide (t.toNat<threads)&&(decide (n.toNat<8)&&decide (kids.length=0)) else
  if k=2 then decide (n.toNat<locs)&&(decide (t=0)&&decide (kids.length=0)) else
  if k=3\/k=4 then bare&&(decide (2<=kids.length)&&kids.all (jU threads locs d)) else
  if k=5 then bare&&(decide (kids.length=1)&&kids.all (jU threads locs d)) else false
def zbr (p:Prg):Bool:=zcX p.name&&(zcD p&&((decide (1<=p.threads.length)&&(decide (p.threads.length<=4)&&p.threads.all fun l=>decide (l.length<=12))) &&
 (p.threads.all (fun l=>qX l p.locs.length)&&((decide (p.ask=1)||(decide (p.ask=2)||decide (p.ask=3)))&&jU p.threads.length p.locs.length 20 p.cond))))
end Go.Sei
namespace Go.Proofs.YtakcdebpklffiaaGreatDoor
open Go.Vc Go.RowKit Go.Sei
def wOp (o:UInt8):Bool:=decide (o=1)||(decide (o=3)||(decide (o=4)||(decide (o=5)||decide (o=6))))
def jY (l:List InsD) (r:Nat):Bool:=l.any fun x=>wOp x.op&&decide (x.dst.toNat=r)
theorem ziA{l:List InsD}{k:Nat}(h:k<l.length)(r:Nat):jY (l.take (k+1)) r=(jY (l.take k) r||(wOp l[k].op&&decide (l[k].dst.toNat=r))):=by
 unfold jY;rw[tsg h,List.any_append];simp
def qK (n:Nat):List UInt8:=if n<10 then[UInt8.ofNat (48+n)] else if n<100 then[UInt8.ofNat (48+n/10),UInt8.ofNat (48+n%10)] else[UInt8.ofNat (48+n/10/10),UInt8.ofNat (48+n/10%10),UInt8.ofNat (48+n%10)]
theorem zlV{n:Nat}(h:n<1000):Lib.decDigits n=qK n:=by
 unfold qK;by_cases a:n<10
 ·rw[Gd a,Lib.decDigits,dif_pos a]
 ·rw[Gc a,Lib.decDigits,dif_neg a];by_cases b:n<100
  ·rw[Gd b,Lib.decDigits,dif_pos (by omega)];rfl
  ·rw[Gc b,Lib.decDigits,dif_neg (by omega),Lib.decDigits,dif_pos (by omega)];rfl
theorem qZ(n:Nat):(qK n).length<=3:=by
 unfold qK
 split
 ·simp
 ·split <;> simp
def zfg (F:FinV) (t r:Nat):List UInt8:=qK t++[58,114]++qK r++[61]++qK (F.reg t r).toNat
def zh7 (F:FinV) (k:Nat) (name:List UInt8):List UInt8:=name++[61]++qK (F.mem k).toNat
def zcu (F:FinV) (l:List InsD) (t r:Nat):List (List UInt8):=((List.range r).filter (jY l)).map (zfg F t)
def za3 (F:FinV) (ts:List (List InsD)) (k:Nat):List (List UInt8):=(List.range k).flatMap fun t=>zcu F (ts.getD t []) t 8
def zaS (F:FinV) (ls:List (List UInt8)) (k:Nat):List (List UInt8):=(List.range k).map fun i=>zh7 F i (ls.getD i [])
def zaM (p:Prg) (F:FinV):List (List UInt8):=za3 F p.threads p.threads.length++zaS F p.locs p.locs.length
def zbM (p:Prg) (F:FinV):List UInt8:=if zbr p=true then Lib.join (zaM p F) [32] else[]
theorem zkp(F:FinV)(l:List InsD)(t r:Nat):zcu F l t (r+1)=zcu F l t r++if jY l r=true then[zfg F t r] else[]:=by
 unfold zcu;rw[QL,Kq,QG,Qe,List.filter_nil]
 split <;> rfl
theorem zj9(F:FinV)(ts:List (List InsD))(k:Nat):za3 F ts (k+1)=za3 F ts k++zcu F (ts.getD k []) k 8:=by
 unfold za3;rw[QL,Kb,List.flatMap_singleton]
theorem zkE(F:FinV)(ls:List (List UInt8))(k:Nat):zaS F ls (k+1)=zaS F ls k++[zh7 F k (ls.getD k [])]:=by
 unfold zaS;rw[QL,QG];rfl
theorem znZ(F:FinV)(t r:Nat):(zfg F t r).length<=20:=by
 have:=qZ t;have:=qZ r;have:=qZ (F.reg t r).toNat;unfold zfg;simp only[lap,Qj,QE];omega
theorem zlF{M:Nat}{sep:List UInt8}:∀{ws:List (List UInt8)},(∀x∈ws,x.length<=M)->(Lib.join ws sep).length<=ws.length*(M+sep.length):=by
 intro ws h;have e:∀(a:List UInt8) (r:List (List UInt8)),Lib.join (a::r) sep=a++Lib.joinTail sep r:=fun a r=>by
  induction r generalizing a with
  | nil=>simp [Lib.join,Lib.joinTail,List.intercalate]
  | cons b r ih =>
   have d:Lib.join (a::b::r) sep=a++sep++Lib.join (b::r) sep:=by simp[Lib.join,List.intercalate]
   rw[d,ih];simp[Lib.joinTail]
 have i:∀(r:List (List UInt8)),(∀x∈r,x.length<=M)->(Lib.joinTail sep r).length<=r.length*(M+sep.length):=fun r=>by
  induction r with
  | nil=>intro _;simp [Lib.joinTail]
  | cons b r ih =>
   intro f;have d:=ih fun x c=>f x (JR _ c);have j:=f b (Ku ..);have g:Lib.joinTail sep (b::r)=sep++b++Lib.joinTail sep r:=by simp[Lib.joinTail]
   rw[g,lap,lap,Qj,UG];omega
 cases ws with
 | nil=>simp [Lib.join,List.intercalate]
 | cons a r =>
  rw[e,lap,Qj,UG];have d:=i r fun x c=>h x (JR _ c);have j:=h a (Ku ..);omega
def zrm (u:Nat):Lib.NumEnd Nat->Bool
 | .ok v=>Nat.beq v u
 | _=>false
theorem zmZ{n:Nat}(h:n<256):Lib.parseUintB 8 (qK n) = .ok n:=by
 have a:((List.range 256).all fun k=>zrm k (Lib.parseUintB 8 (qK k)))=true:=by kernel_rfl
 have:=Qa.1 a n (Ue.2 h);unfold zrm at this
 split at this
 ·rename_i v e;rw[e,JM this]
 ·cases this
theorem zfu{n:Nat}(h:n<256){c:UInt8}(hc:c.toNat<48\/57<c.toNat):c ∉ qK n:=fun b=>by
 have a:((List.range 256).all fun k=>(qK k).all fun c=>Nat.ble 48 c.toNat&&Nat.ble c.toNat 57)=true:=by kernel_rfl
 have:=Qa.1 (Qa.1 a n (Ue.2 h)) c b;rw[bAT] at this;have e:=JN this.1;have d:=JN this.2;omega
theorem zb7(c:UInt8)(u r:List UInt8):∀(a:List UInt8),c ∉ a->Lib.index (a++(c::u++r)) (c::u)=a.length
 | [],_=>by
  show Lib.index (c::u++r) (c::u)=0;have:(c::u).isPrefixOf (c::(u++r))=true:=by
   rw[List.isPrefixOf_iff_prefix];exact⟨r,by simp⟩
  show Lib.index (c::(u++r)) (c::u)=0;unfold Lib.index;rw[Gd this]
 | b::a,h=>by
  have f:c≠b:=fun e=>h (by rw[e];simp);have d:=zb7 c u r a (fun g=>h (JR _ g));show Lib.index (b::(a++(c::u++r))) (c::u)=_;unfold Lib.index;rw[Gc (by simp[List.isPrefixOf,f]),d,Gc (by rw[beq_iff_eq];omega)];simp
theorem zcY(c:UInt8)(u:List UInt8):∀(a:List UInt8),c ∉ a->Lib.index a (c::u) = -1
 | [],_=>rfl
 | b::a,h=>by
  have f:c≠b:=fun e=>h (by rw[e];simp);have d:=zcY c u a (fun g=>h (JR _ g));unfold Lib.index;rw[Gc (by simp[List.isPrefixOf,f]),d,Gd (by decide)]
theorem zjD(c:UInt8)(u a r:List UInt8)(h:c ∉ a):Lib.cut (a++(c::u++r)) (c::u)=(a,r,true):=by
 unfold Lib.cut;rw[zb7 c u r a h,Gd (by omega),KE];have b:(a++(c::u++r)).take a.length=a:=by simp
 have d:(a++(c::u++r)).drop (a.length+(c::u).length)=r:=by
  rw[List.drop_append,Jw (by omega),QJ,Jt];exact Ub
 rw[b,d]
theorem zqL(c:UInt8)(u a:List UInt8)(h:c ∉ a):Lib.cut a (c::u)=(a,[],false):=by
 unfold Lib.cut;rw[zcY c u a h,Gc (by omega)]
theorem zcF(x y:List UInt8)(r:List (List UInt8))(c:UInt8):Lib.join (x::y::r) [c]=x++([c]++Lib.join (y::r) [c]):=by
 rw[Lib.join_cons,Lib.join_cons];simp[Lib.joinTail]
theorem zeY(c:UInt8):∀(xs:List (List UInt8)) (k:Nat),xs≠[]->(∀x∈xs,c ∉ x)->xs.length<=k+1->Lib.splitK [c] 0 k (Lib.join xs [c])=xs
 | [],_,h,_,_=>Ge rfl h
 | [x],k,_,hx,_=>by
  rw[Lib.join_one]
  cases k with
  | zero=>rfl
  | succ k=>unfold Lib.splitK;rw [zcY c [] x (hx x (by simp)),Gd (by decide)]
 | x::y::r,0,_,_,hl=>by simp at hl
 | x::y::r,k+1,_,hx,hl=>by
  have b:=zeY c (y::r) k (by simp) (fun z e=>hx z (JR _ e)) (by simpa using hl);rw[zcF];unfold Lib.splitK;rw[zb7 c [] _ x (hx x (by simp)),Gc (by rw[beq_iff_eq];omega),KE];have a:(x++([c]++Lib.join (y::r) [c])).take (x.length+0)=x:=by simp
  have d:(x++([c]++Lib.join (y::r) [c])).drop (x.length+[c].length)=Lib.join (y::r) [c]:=by
   rw[List.drop_append];simp
  rw[a,d,b]
theorem zfa(c:UInt8):∀(xs:List (List UInt8)) (f:Nat),xs≠[]->(∀x∈xs,c ∉ x)->xs.length<=f->Lib.countFrom [c] f (Lib.join xs [c])=xs.length-1
 | [],_,h,_,_=>Ge rfl h
 | x::r,0,_,_,hl=>by simp at hl
 | [x],f+1,_,hx,_=>by
  rw[Lib.join_one];unfold Lib.countFrom;rw[zcY c [] x (hx x (by simp)),Gd (by decide)];rfl
 | x::y::r,f+1,_,hx,hl=>by
  have b:=zfa c (y::r) f (by simp) (fun z d=>hx z (JR _ d)) (by simpa using hl);rw[zcF];unfold Lib.countFrom;rw[zb7 c [] _ x (hx x (by simp)),Gc (by rw[beq_iff_eq];omega),KE];have a:(x++([c]++Lib.join (y::r) [c])).drop (x.length+[c].length)=Lib.join (y::r) [c]:=by
   rw[List.drop_append];simp
  rw[a,b];simp only[Qj];omega
theorem zhq(c:UInt8):∀(xs:List (List UInt8)),xs.length<=(Lib.join xs [c]).length+1
 | []=>by simp
 | [x]=>by simp
 | x::y::r=>by
  have:=zhq c (y::r);rw[zcF];simp only[Qj,lap] at *;omega
theorem zka(c:UInt8){xs:List (List UInt8)}(h:xs≠[])(hx:∀x∈xs,c ∉ x):Lib.split (Lib.join xs [c]) [c]=xs:=by
 have a:=zhq c xs;unfold Lib.split Lib.count;rw[zfa c xs _ h hx a];exact zeY c xs _ h hx (by omega)
def rgI (ts:List (List InsD)) (k:Nat):List (Nat×Nat):=(List.range k).flatMap fun t=>((List.range 8).filter (jY (ts.getD t []))).map fun r=>(t,r)
theorem znU(F:FinV)(ts:List (List InsD))(k:Nat):za3 F ts k=(rgI ts k).map fun q=>zfg F q.1 q.2:=by
 unfold za3 rgI zcu;rw[List.map_flatMap,List.flatMap_def,List.flatMap_def];congr 1;refine Kf fun t _=>?_;rw[Uw];rfl
theorem zfR{ts:List (List InsD)}{k:Nat}{q:Nat×Nat}:q∈rgI ts k↔q.1<k/\q.2<8/\jY (ts.getD q.1 []) q.2=true:=by
 unfold rgI;rw[List.mem_flatMap];constructor
 ·rintro⟨t,d,h⟩;obtain⟨r,e,rfl⟩:=Uz.1 h;obtain⟨b,a⟩:=QI.1 e;exact⟨Ue.1 d,Ue.1 b,a⟩
 ·rintro⟨b,a,c⟩;exact⟨q.1,Ue.2 b,Uz.2 ⟨q.2,QI.2 ⟨Ue.2 a,c⟩,rfl⟩⟩
theorem znV(ts:List (List InsD))(k:Nat):(rgI ts k).Nodup:=by
 unfold rgI;show List.Pairwise _ _;rw[List.pairwise_flatMap];refine⟨fun t _=>?_,List.Pairwise.imp_of_mem ?_ List.nodup_range⟩
 ·refine List.pairwise_map.2 (List.Pairwise.imp ?_ (List.nodup_range.filter _));intro a b c e;exact c (Prod.mk.inj e).2
 ·intro a b _ _ c x d y f e;obtain⟨r,_,rfl⟩:=Uz.1 d;obtain⟨s,_,rfl⟩:=Uz.1 f;exact c (Prod.mk.inj e).1
def ix (q:Nat×Nat):Nat:=q.1*8+q.2
def inI (L:List (Nat×Nat)) (k i:Nat):Bool:=(L.take k).any fun q=>decide (ix q=i)
theorem zrs(L:List (Nat×Nat))(i:Nat):inI L 0 i=false:=rfl
theorem zd7{L:List (Nat×Nat)}{k:Nat}{q:Nat×Nat}(h:L[k]?=some q)(i:Nat):inI L (k+1) i=(inI L k i||decide (ix q=i)):=by
 unfold inI;rw[List.take_add_one,h,List.any_append];simp
theorem zqn{ts:List (List InsD)}{n k:Nat}{q:Nat×Nat}(h:(rgI ts n)[k]?=some q):inI (rgI ts n) k (ix q)=false:=by
 unfold inI;rw[KG];intro p b;have f:=(Jo.1 h).1;have a:p≠q:=fun e=>by
  subst e;obtain⟨j,d,e⟩:=Kd b;rw[Ql] at d;rw[List.getElem_take] at e;have c:=(Jo.1 h).2;have:=(List.getElem_inj (znV ts n)).1 (e.trans c.symm);omega
 have i:=(zfR.1 (JT b)).2.1;have g:=(zfR.1 (JS h)).2.1;intro e;have e:=dT e;unfold ix at e;exact a (Prod.ext (by omega) (by omega))
theorem zqo{ts:List (List InsD)}{n t r:Nat}(hr:r<8):inI (rgI ts n) (rgI ts n).length (t*8+r)=(decide (t<n)&&jY (ts.getD t []) r):=by
 unfold inI;rw[Qn,Bool.eq_iff_iff,Qb,bAT,dE];constructor
 ·rintro⟨q,f,e⟩;obtain⟨a,c,b⟩:=zfR.1 f;have e:=dT e;unfold ix at e;have d:q.1=t:=by omega
  have g:q.2=r:=by omega
  rw[d] at a b;rw[g] at b;exact⟨a,b⟩
 ·rintro⟨a,c⟩;exact⟨(t,r),zfR.2 ⟨a,hr,c⟩,Uh rfl⟩
theorem zf9{s:List UInt8}(h:zaI s=true){b:UInt8}(hb:b=32\/b=58\/b=61):b ∉ s:=fun a=>by
 have d:zY b≠3/\qi b=false:=by rcases hb with rfl | rfl | rfl <;> exact⟨by decide,by decide⟩
 cases s with
 | nil=>cases a
 | cons c r =>
  unfold zaI at h;simp only[bAT,dE] at h;rcases Ur.1 a with e | a
  ·rw[<- e] at h;exact d.1 h.2.1
  ·have:=Qa.1 h.2.2.2.1 b a;rw[d.2] at this
   cases this
theorem znW(ts:List (List InsD))(k:Nat):rgI ts (k+1)=rgI ts k++((List.range 8).filter (jY (ts.getD k []))).map fun r=>(k,r):=by
 unfold rgI;rw[QL (n:=k),Kb,List.flatMap_singleton]
theorem zlk(ts:List (List InsD)):∀k,(rgI ts k).length<=8*k
 | 0=>UN _
 | k+1=>by
  have:=zlk ts k;have h:=JH (jY (ts.getD k [])) (List.range 8);rw[KN] at h;rw[znW,lap,QD];omega
theorem zf8:∀{l pre:List (List UInt8)},zbd pre l=true->∀s∈l,zaI s=true
 | [],_,_,s,b=>by cases b
 | a::r,pre,h,s,b=>by
  unfold zbd at h;rw[bAT,bAT] at h;rcases Ur.1 b with rfl | b
  ·exact h.1
  ·exact zf8 h.2.2 s b
theorem zd8{L:List (Nat×Nat)}{k:Nat}(h:L.length<=k)(i:Nat):inI L k i=inI L L.length i:=by
 unfold inI;rw[JB h,Qn]
section
variable{F:FinV}{R:List (Nat×Nat)}
def fB (F:FinV) (R:List (Nat×Nat)) (k i:Nat):UInt8:=if i<32 then(if inI R k i=true then F.reg (i/8) (i%8) else 0) else if i-32+R.length<k then F.mem (i-32) else 0
def fM (R:List (Nat×Nat)) (k i:Nat):Nat:=if inI R k i=true then 1 else 0
theorem ztJ(i:Nat):fB F R 0 i=0:=by
 unfold fB;rw[zrs]
 split
 ·exact Gc Ko
 ·rw[Gc (by omega)]
theorem ztI(i:Nat):fM R 0 i=0:=by
 unfold fM;rw[zrs,Gc (by decide)]
theorem zr5{k:Nat}{q:Nat×Nat}(h:R[k]?=some q)(h1:q.1<4)(h2:q.2<8):fB F R (k+1) (ix q)=F.reg q.1 q.2:=by
 have a:ix q<32:=by unfold ix;omega
 have b:ix q/8=q.1:=by unfold ix;omega
 have c:ix q%8=q.2:=by unfold ix;omega
 unfold fB;rw[Gd a,zd7 h,Uh rfl,Bool.or_true,Gd rfl,b,c]
theorem zqv{k:Nat}{q:Nat×Nat}(h:R[k]?=some q){j:Nat}(hj:j≠ix q):fB F R (k+1) j=fB F R k j:=by
 have a:=(Jo.1 h).1;unfold fB;rw[zd7 h,QX (fun e=>hj e.symm),Um]
 split
 ·rfl
 ·rw[Gc (by omega),Gc (by omega)]
theorem zr3{k:Nat}{q:Nat×Nat}(h:R[k]?=some q):fM R (k+1) (ix q)=1:=by
 unfold fM;rw[zd7 h,Uh rfl,Bool.or_true,Gd rfl]
theorem zqu{k:Nat}{q:Nat×Nat}(h:R[k]?=some q){j:Nat}(hj:j≠ix q):fM R (k+1) j=fM R k j:=by
 unfold fM;rw[zd7 h,QX (fun e=>hj e.symm),Um]
theorem zr6(j:Nat):fB F R (R.length+j+1) (32+j)=F.mem j:=by
 unfold fB;rw[Gc (by omega),Gd (by omega),Jt]
theorem zqw{j i:Nat}(hi:i≠32+j):fB F R (R.length+j+1) i=fB F R (R.length+j) i:=by
 unfold fB;rw[zd8 (k:=R.length+j+1) (by omega),zd8 (k:=R.length+j) (by omega)]
 split
 ·rfl
 ·by_cases h:i-32+R.length<R.length+j
  ·rw[Gd h,Gd (by omega)]
  ·rw[Gc h,Gc (by omega)]
theorem zr4(j i:Nat):fM R (R.length+j+1) i=fM R (R.length+j) i:=by
 unfold fM;rw[zd8 (k:=R.length+j+1) (by omega),zd8 (k:=R.length+j) (by omega)]
end
section
variable{p:Prg}{F:FinV}
abbrev rgP (p:Prg):List (Nat×Nat):=rgI p.threads p.threads.length
theorem zfz:zaM p F=(rgP p).map (fun q=>zfg F q.1 q.2)++zaS F p.locs p.locs.length:=by
 unfold zaM;rw[znU]
theorem zgX:(zaM p F).length=(rgP p).length+p.locs.length:=by
 rw[zfz,lap,QD];unfold zaS;rw[QD,KN]
theorem zma{k:Nat}{q:Nat×Nat}(h:(rgP p)[k]?=some q):(zaM p F)[k]?=some (zfg F q.1 q.2):=by
 have a:=(Jo.1 h).1;rw[zfz,Jn (by rw[QD];exact a),KM,h];rfl
theorem zmb{j:Nat}(h:j<p.locs.length):(zaM p F)[(rgP p).length+j]?=some (zh7 F j p.locs[j]):=by
 rw[zfz,Jj (by rw[QD];omega),QD,Jt];unfold zaS;rw[KM,Kc h,QU,gDe,gE h];rfl
theorem ziC{k:Nat}(h:k<(zaM p F).length):(∃q,(rgP p)[k]?=some q)\/∃j,j<p.locs.length/\k=(rgP p).length+j:=by
 rw[zgX] at h;by_cases a:k<(rgP p).length
 ·exact .inl ⟨_,gE a⟩
 ·exact .inr ⟨k-(rgP p).length,by omega,by omega⟩
def zgQ (t r:Nat):List UInt8:=qK t++(58::[114]++qK r)
theorem zpX(F:FinV)(t r:Nat):zfg F t r=zgQ t r++(61::[]++qK (F.reg t r).toNat):=by
 unfold zfg zgQ;simp
theorem zqd(F:FinV)(k:Nat)(s:List UInt8):zh7 F k s=s++(61::[]++qK (F.mem k).toNat):=by
 unfold zh7;simp
theorem ziR{t r:Nat}(ht:t<256)(hr:r<256){c:UInt8}(hc:c=32\/c=61):c ∉ zgQ t r:=fun h=>by
 have a:c.toNat<48\/57<c.toNat:=by rcases hc with rfl | rfl <;> decide
 unfold zgQ at h;rcases QH.1 h with h | h
 ·exact zfu ht a h
 ·rcases QH.1 h with h | h
  ·rcases hc with rfl | rfl <;> exact Ge h (by decide)
  ·exact zfu hr a h
theorem zmG(h:zbr p=true):∀s∈p.locs,zaI s=true:=by
 unfold zbr zcD at h;simp only[bAT,dE,Qa] at h;exact zf8 h.2.1.2.2.2
theorem zkA{s:List UInt8}(h:zaI s=true):s.length<=16:=by
 unfold zaI at h
 cases s with
 | nil=>cases h
 | cons c r =>
  rw[bAT] at h;exact dT h.1
theorem zfA(hok:zbr p=true)(ht4:p.threads.length<=4){k:Nat}(h:k<(zaM p F).length):∃a v,(zaM p F)[k]?=some (a++(61::[]++qK v))/\v<256/\(61:UInt8) ∉ a/\(32:UInt8) ∉ a/\a.length<=16 /\
  ((∃q,(rgP p)[k]?=some q/\a=zgQ q.1 q.2/\v=(F.reg q.1 q.2).toNat/\q.1<p.threads.length/\q.2<8)\/(∃j,j<p.locs.length/\k=(rgP p).length+j/\p.locs[j]?=some a/\(58:UInt8) ∉ a/\v=(F.mem j).toNat)):=by
 rcases ziC h with⟨q,d⟩ | ⟨j,c,rfl⟩
 ·obtain⟨f,e,_⟩:=zfR.1 (JS d);have g:=qZ q.1;have i:=qZ q.2;refine⟨zgQ q.1 q.2,(F.reg q.1 q.2).toNat,by rw[zma d,zpX],(F.reg q.1 q.2).toNat_lt,ziR (by omega) (by omega) (.inr rfl),ziR (by omega) (by omega) (.inl rfl),?_,.inl ⟨q,d,rfl,rfl,f,e⟩⟩;unfold zgQ;simp only[lap,Qj,QE];omega
 ·have b:=zmG hok p.locs[j] (gM c);exact⟨p.locs[j],(F.mem j).toNat,by rw[zmb c,zqd],(F.mem j).toNat_lt,zf9 b (.inr (.inr rfl)),zf9 b (.inl rfl),zkA b,.inr ⟨j,c,rfl,gE c,zf9 b (.inr (.inl rfl)),rfl⟩⟩
theorem zj6(hok:zbr p=true)(ht4:p.threads.length<=4):∀x∈zaM p F,(32:UInt8) ∉ x/\x.length<=20:=fun x g=>by
 obtain⟨k,c,e⟩:=Kd g;obtain⟨a,v,d,f,_,b,i,_⟩:=zfA hok ht4 c;rw[gE c,e] at d;rw[QV d];have:=qZ v;refine⟨fun h=>?_,by simp only[lap,Qj,QE];omega⟩;rcases QH.1 h with h | h
 ·exact b h
 ·rcases QH.1 h with h | h
  ·exact Ge h (by decide)
  ·exact zfu f (.inl (by decide)) h
end
end Go.Proofs.YtakcdebpklffiaaGreatDoor
namespace Go.Vc
open Go.RowKit
structure MapK (P:Program) (K:TypeId) {κ:Type} [DecidableEq κ] (key:κ->Value):Prop where
 check:∀q e w,(Instr.checkKey e 10000 K (key q)).run P w = .ok () w
 eq:∀q q' w,(Op.equal K (key q) (key q')).run P w = .ok (decide (q=q')) w
 same:∀q,Instr.sameBits 10000 (key q) (key q)=true
 desc:∃d,P.underlying K=some d/\∀q q',Instr.sameNow d (key q) (key q')=none\/Instr.sameNow d (key q) (key q')=some (decide (q=q'))
section
variable{P:Program}{K:TypeId}{κ:Type}[DecidableEq κ]{key:κ->Value}
abbrev Ent (κ:Type):=κ×Value×Nat
def entry (key:κ->Value) (e:Ent κ):MapEntry:=⟨key e.1,e.2.1,e.2.2⟩
def jS (q:κ):List (Ent κ)->Nat->Option (Nat×Value)
 | [],_=>none
 | e::r,i=>if q=e.1 then some (i,e.2.1) else jS q r (i+1)
theorem zcJ(hK:MapK P K key)(q:κ):∀(es:List (Ent κ)) (i:Nat) (w:Wd),(Instr.findAsking K (key q) (es.map (entry key)) i).run P w = .ok (jS q es i) w
 | [],_,_=>rfl
 | e::r,i,w=>by
  simp only[Uq,Instr.findAsking,UJ,entry,hK.eq q e.1 w,KT,jS];by_cases h:q=e.1
  ·simp[h]
  ·simp only[h,UL,Kn,UZ];exact zcJ hK q r (i+1) w
theorem zgq{d:TypeDesc}{q:κ}(h:∀q',Instr.sameNow d (key q) (key q')=none\/Instr.sameNow d (key q) (key q')=some (decide (q=q'))):∀(es:List (Ent κ)) (i:Nat),
  Instr.findNow d (key q) (es.map (entry key)) i=none\/Instr.findNow d (key q) (es.map (entry key)) i=some (jS q es i)
 | [],_ => .inr rfl
 | e::r,i=>by
  simp only[Uq,Instr.findNow,entry,jS];rcases h e.1 with a | a
  ·rw[a];exact .inl rfl
  ·rw[a];by_cases b:q=e.1
   ·simp[b]
   ·simp only[b,UL,UZ];exact zgq h r (i+1)
theorem ze7(hK:MapK P K key)(q:κ)(es:List (Ent κ))(w:Wd):(Instr.findKey K (key q) (es.map (entry key))).run P w = .ok (jS q es 0) w:=by
 obtain⟨d,b,a⟩:=hK.desc;simp only[Instr.findKey,UJ,Ui b,KT];rcases zgq (a q) es 0 with h | h
 ·rw[h];exact zcJ hK q es 0 w
 ·rw[h];rfl
theorem zdx{q:κ}:∀{es:List (Ent κ)} {i j:Nat} {v:Value},jS q es i=some (j,v)->∃b,i<=j/\es[j-i]?=some (q,v,b)
 | [],_,_,_,h=>by simp [jS] at h
 | e::r,i,j,v,h=>by
  simp only[jS] at h
  split at h
  ·rename_i a;simp only[KS,Uu] at h;obtain⟨rfl,rfl⟩:=h;exact⟨e.2.2,UN _,by simp[a]⟩
  ·obtain⟨b,d,c⟩:=zdx h;refine⟨b,by omega,?_⟩;have:j-i=(j-(i+1))+1:=by omega
   rw[this];simpa using c
theorem zdy{q:κ}:∀{es:List (Ent κ)} {i:Nat},jS q es i=none->∀e∈es,e.1≠q
 | [],_,_,e,he=>by simp at he
 | x::r,i,h,e,he=>by
  simp only[jS] at h
  split at h
  ·cases h
  ·rename_i a
   cases he with
   | head=>exact fun e=>a e.symm
   | tail _ he=>exact zdy h e he
def asF (es:List (Ent κ)) (q:κ):Option Value:=(jS q es 0).map (·.2)
theorem zq5(q:κ):asF ([]:List (Ent κ)) q=none:=rfl
theorem zcI(q:κ):∀(es:List (Ent κ)) (i:Nat),(jS q es i).map (·.2)=asF es q
 | [],_=>rfl
 | e::r,i=>by
  unfold asF;simp only[jS]
  split
  ·rfl
  ·rw[zcI q r (i+1),zcI q r (0+1)]
theorem zbX(e:Ent κ)(r:List (Ent κ))(q:κ):asF (e::r) q=if q=e.1 then some e.2.1 else asF r q:=by
 unfold asF;simp only[jS]
 split
 ·rfl
 ·rw[zcI];rfl
theorem zdG(e:Ent κ)(q:κ):∀(es:List (Ent κ)),asF (es++[e]) q=(asF es q).or (if q=e.1 then some e.2.1 else none)
 | []=>by rw [QJ,zbX,zq5];simp
 | x::r=>by
  rw[Qc,zbX,zbX,zdG e q r]
  split <;> simp
def MapF (key:κ->Value) (w:Wd) (r:Nat) (f:κ->Option Value):Prop :=
 ∃(es:List (Ent κ)) (clock:Nat),w.heap[r]?=some (.map (es.map (entry key)).toArray clock)/\(∀q,asF es q=f q)/\(es.map (·.1)).Nodup/\(es.map (·.2.2)).Nodup/\(∀e∈es,e.2.2<clock)
def MapS (key:κ->Value) (w:Wd) (r:Nat) (f:κ->Option Value) (q:κ) (born:Nat):Prop :=
 ∃(es:List (Ent κ)) (clock:Nat),w.heap[r]?=some (.map (es.map (entry key)).toArray clock)/\(∀q,asF es q=f q)/\(es.map (·.1)).Nodup/\(es.map (·.2.2)).Nodup/\(∀e∈es,e.2.2<clock)/\∃v,(q,v,born)∈es
theorem MapS.map{w:Wd}{r:Nat}{f:κ->Option Value}{q:κ}{born:Nat}(h:MapS key w r f q born):MapF key w r f:=by
 obtain⟨c,a,i,e,b,g,d,_⟩:=h;exact⟨c,a,i,e,b,g,d⟩
theorem MapF.below{w w2:Wd}{r:Nat}{f:κ->Option Value}(h:MapF key w r f)(hb:Bw w w2):MapF key w2 r f:=by
 obtain⟨b,a,c,qA⟩:=h;exact⟨b,a,zb hb c,qA⟩
theorem MapF.same{w w2:Wd}{r:Nat}{f:κ->Option Value}(h:MapF key w r f)(hb:w2.heap[r]?=w.heap[r]?):MapF key w2 r f:=by
 obtain⟨b,a,c,qA⟩:=h;exact⟨b,a,hb.trans c,qA⟩
theorem MapF.new{w:Wd}:MapF key (w.alloc (.map #[] 0)) w.heap.size (fun(_:κ)=>none) :=
 ⟨[],0,zw w _,fun _=>rfl,by simp,by simp,by simp⟩
theorem zkD{T elem:TypeId}(hK:MapK P K key)(hu:P.underlying T=some (.map K elem)){z:Value}(hz:∀w,(zeroValue elem).run P w = .ok z w){w:Wd}{r:Nat}{f:κ->Option Value}(h:MapF key w r f)(q:κ)(ok:Bool) :
  (Instr.lookup T (.map (some r)) (key q) ok).run P w = .ok (if ok then .tuple #[(f q).getD z,.bool (f q).isSome] else(f q).getD z) w:=by
 obtain⟨b,a,d,c,_⟩:=h;have g:(getObj r).run P w = .ok (.map (b.map (entry key)).toArray a) w:=by simp[getObj,Sem.run,d]
 have e:asF b q=f q:=c q;unfold asF at e;simp only[Instr.lookup,UJ,Ui hu,KT,g,UK,hK.check q _ w,ze7 hK q b w]
 cases hfl:jS q b 0 with
 | none =>
  rw[hfl] at e;simp only[QT] at e;simp only[UJ,hz w,KT,UK,<- e,Option.getD_none,Option.isSome_none]
  first | done | (cases ok <;> rfl)
 | some p =>
  obtain⟨j,v⟩:=p;rw[hfl] at e;simp only[QU] at e;simp only[<- e,Qv,Option.isSome_some]
  cases ok <;> rfl
theorem j3{w:Wd}{r:Nat}{o o':Obj}(h:w.heap[r]?=some o):(w.putObj r o').heap[r]?=some o':=by
 have:r<w.heap.size:=hlt h;simp[World.putObj,this]
theorem zj{w:Wd}{r k:Nat}{o:Obj}(h:k≠r):(w.putObj r o).heap[k]?=w.heap[k]?:=by
 have:¬r=k:=fun e=>h e.symm;simp[World.putObj,this]
theorem qh{B:Nat}{a w:Wd}(h:Below B a w){r:Nat}(hr:B<=r)(o:Obj):Below B a (w.putObj r o) :=
 h.trans ⟨rfl,rfl,rfl,by simp[World.putObj],fun k b=>zj (by omega)⟩
theorem zmP(w:Wd)(r:Nat)(o:Obj):w.grownBy (w.putObj r o) (some r) :=
 ⟨rfl,rfl,rfl,by simp[World.putObj],fun k _ a=>zj (fun e=>a (by rw[e]))⟩
theorem zl5{q:κ}{v:Value}{b:Nat}:∀{es:List (Ent κ)},(es.map (·.1)).Nodup->(q,v,b)∈es->asF es q=some v
 | [],_,h=>by simp at h
 | e::r,hn,h=>by
  rw[Uq,QK] at hn;rw[zbX]
  cases h with
  | head=>simp
  | tail _ h =>
   have:q≠e.1:=fun a=>hn.1 (Uz.2 ⟨_,h,a⟩);rw[Gc this];exact zl5 hn.2 h
theorem zit{born:Nat}(x:Value)(q:κ)(q':κ):∀(es:List (Ent κ)),(es.map (·.1)).Nodup->(∃v,(q,v,born)∈es)->(∀e∈es,e.2.2=born->e.1=q) ->
  asF (es.map fun e=>if e.2.2=born then(e.1,x,e.2.2) else e) q'=if q'=q then some x else asF es q'
 | [],_,⟨v,h⟩,_=>by simp at h
 | e::r,hn,⟨v,hm⟩,hb=>by
  rw[Uq,QK] at hn;rw[Uq,zbX,zbX];by_cases f:e.2.2=born
  ·have g:e.1=q:=hb e Ku f;simp only[f,Gb];rw[g];by_cases a:q'=q
   ·simp[a]
   ·simp only[a,UZ];have b:∀(l:List (Ent κ)),(∀e∈l,e.2.2=born->e.1=q)->q ∉ l.map (·.1)->l.map (fun e=>if e.2.2=born then(e.1,x,e.2.2) else e)=l:=by
     intro l
     induction l with
     | nil=>intros;rfl
     | cons y l ih =>
      intro m k;have j:¬y.2.2=born:=fun j=>k (Uz.2 ⟨y,Ku,m y Ku j⟩);rw[Uq,Gc j,ih (fun z c=>m z (JR _ c)) (fun c=>k (by rw[Uq];exact JR _ c))]
    rw[b r (fun z c=>hb z (JR _ c)) (by rw[<- g];exact hn.1)]
  ·have d:(q,v,born)∈r:=by
    cases hm with
    | head=>exact Ge rfl f
    | tail _ h=>exact h
   simp only[f,UZ];have i:q≠e.1:=fun g=>hn.1 (Uz.2 ⟨_,d,g⟩);rw[zit x q q' r hn.2 ⟨v,d⟩ (fun z c=>hb z (JR _ c))];by_cases a:q'=q
   ·subst a;simp[i]
   ·simp[a]
end
section
variable{P:Program}{κ:Type}[DecidableEq κ]{key:κ->Value}{K:TypeId}
theorem jv{T elem:TypeId}(hK:MapK P K key)(hu:P.underlying T=some (.map K elem)){w:Wd}{r:Nat}{f:κ->Option Value}(h:MapF key w r f)(q:κ)(x:Value) :
  ∃o,(Instr.mapUpdate T (.map (some r)) (key q) x).run P w = .ok () (w.putObj r o)/\MapF key (w.putObj r o) r (fun q'=>if q'=q then some x else f q'):=by
 obtain⟨d,c,hh,hf,hn,hb,hc⟩:=h;have hg:(getObj r).run P w = .ok (.map (d.map (entry key)).toArray c) w:=by simp[getObj,Sem.run,hh]
 have s:∀o,(setObj r o).run P w = .ok () (w.putObj r o):=fun o=>by simp[setObj,Sem.run,hh,World.putObj]
 have e:asF d q=f q:=hf q;unfold asF at e;simp only[Instr.mapUpdate,UJ,Ui hu,KT,hg,hK.check q _ w,ze7 hK q d w]
 cases hfl:jS q d 0 with
 | none =>
  rw[hfl] at e;simp only[QT] at e;refine⟨.map ((d++[(q,x,c)]).map (entry key)).toArray (c+1),?_,?_⟩
  ·have n:(d.map (entry key)).toArray.push { key:=key q,val:=x,born:=c }=((d++[(q,x,c)]).map (entry key)).toArray:=by
    rw[<- KW];simp[entry]
   simp only[n,s]
  ·refine⟨d++[(q,x,c)],c+1,j3 hh,fun q'=>?_,?_,?_,?_⟩
   ·rw[zdG];by_cases hq:q'=q
    ·subst hq;rw[hf q',<- e];simp
    ·simp[hq,hf q']
   ·rw[QG,Uq,Ux];refine List.nodup_append.2 ⟨hn,by simp,?_⟩;intro a ha b l;simp only[Kv] at l;subst l;obtain⟨y,g,rfl⟩:=Uz.1 ha;exact zdy hfl y g
   ·rw[QG,Uq,Ux];refine List.nodup_append.2 ⟨hb,by simp,?_⟩;intro a ha b l;simp only[Kv] at l;subst l;obtain⟨y,g,rfl⟩:=Uz.1 ha;exact Nat.ne_of_lt (hc y g)
   ·intro y g;rw[QH] at g;rcases g with g | g
    ·exact Nat.lt_succ_of_lt (hc y g)
    ·simp only[Kv] at g;subst g;exact Qr _
 | some p =>
  obtain⟨j,v⟩:=p;obtain⟨b,_,z⟩:=zdx hfl;rw[UF] at z;have hm:(q,v,b)∈d:=JS z;have ab:(d.map (entry key)).toArray[j]?=some (entry key (q,v,b)):=by simp[z]
  have only:∀i (hi:i<d.length),(d[i]).2.2=b->i=j:=fun i hi m=>by
   obtain⟨ac,n⟩:=Jo.1 z;by_cases k:i=j
   ·exact k
   ·exfalso
    have h3:=(List.pairwise_iff_getElem.1 hb);rcases Nat.lt_or_gt_of_ne k with hlt | hlt
    ·exact h3 i j (by simpa using hi) (by simpa using ac) hlt (by simp[n,m])
    ·exact h3 j i (by simpa using ac) (by simpa using hi) hlt (by simp[n,m])
  have ad:∀y∈d,y.2.2=b->y.1=q:=fun y g m=>by
   obtain⟨i,hi,e1⟩:=Kd g;have:=only i hi (by rw[e1];exact m);subst this;obtain⟨_,n⟩:=Jo.1 z;rw[<- e1,n]
  have aa:(d.map (entry key)).toArray.modify j (fun e=>{ e with key:=key q,val:=x })=((d.map fun e=>if e.2.2=b then(e.1,x,e.2.2) else e).map (entry key)).toArray:=by
   apply Array.ext_getElem?;intro i;rw[Array.getElem?_modify];by_cases u:i<d.length
   ·by_cases k:j=i
    ·subst k;obtain⟨_,n⟩:=Jo.1 z;rw[Gd rfl,ab];simp[u,n,entry]
    ·rw[Gc k];have:¬(d[i]).2.2=b:=fun h=>k (only i u h).symm;simp[u,this]
   ·have h1:(d.map (entry key)).toArray[i]?=none:=(by simp;omega);have h2:((d.map fun e=>if e.2.2=b then(e.1,x,e.2.2) else e).map (entry key)).toArray[i]?=none:=(by simp;omega);rw[h1,h2];split <;> rfl
  refine⟨.map ((d.map fun e=>if e.2.2=b then(e.1,x,e.2.2) else e).map (entry key)).toArray c,?_,?_⟩
  ·simp only[ab,QU,Qv,entry,Instr.keyThatStays,hK.same q,Gb,UK,KT,UJ];have t:=aa;rw[t,s]
  ·refine⟨_,c,j3 hh,fun q'=>?_,?_,?_,?_⟩
   ·rw[zit x q q' d hn ⟨v,hm⟩ ad,hf q']
   ·have:(d.map fun e=>if e.2.2=b then(e.1,x,e.2.2) else e).map (·.1)=d.map (·.1):=by
     rw[Uw];apply Kf;intro e _;simp only[Ka];split <;> rfl
    rw[this];exact hn
   ·have:(d.map fun e=>if e.2.2=b then(e.1,x,e.2.2) else e).map (·.2.2)=d.map (·.2.2):=by
     rw[Uw];apply Kf;intro e _;simp only[Ka];split <;> rfl
    rw[this];exact hb
   ·intro e he;obtain⟨y,g,rfl⟩:=Uz.1 he
    split
    ·exact hc y g
    ·exact hc y g
end
end Go.Vc
namespace Go.Proofs.YtakcdebpklffiaaGreatDoor
open Go.Vc Go.RowKit
structure MapKw (P:Program) (K:TypeId) {κ:Type} [DecidableEq κ] (key:κ->Value) (w:Wd) (S:κ->Prop):Prop where
 check:∀q e,(Instr.checkKey e 10000 K (key q)).run P w = .ok () w
 eq:∀q q',S q->S q'->(Op.equal K (key q) (key q')).run P w = .ok (decide (q=q')) w
 same:∀q,Instr.sameBits 10000 (key q) (key q)=true
 desc:∃d,P.underlying K=some d/\∀q q',Instr.sameNow d (key q) (key q')=none
section
variable{P:Program}{K:TypeId}{κ:Type}[DecidableEq κ]{key:κ->Value}{w:Wd}{S:κ->Prop}
theorem ze8(hK:MapKw P K key w S)(q:κ)(hq:S q):∀(es:List (Ent κ)) (i:Nat),(∀e∈es,S e.1)->(Instr.findAsking K (key q) (es.map (entry key)) i).run P w = .ok (jS q es i) w
 | [],_,_=>rfl
 | e::r,i,he=>by
  simp only[Uq,Instr.findAsking,UJ,entry,hK.eq q e.1 hq (he e (Ku ..)),KT,jS];by_cases h:q=e.1
  ·simp[h]
  ·simp only[h,UL,Kn,UZ];exact ze8 hK q hq r (i+1) fun x a=>he x (JR _ a)
omit [DecidableEq κ] in
theorem findNow_none{d:TypeDesc}{q:κ}(h:∀q',Instr.sameNow d (key q) (key q')=none):∀(es:List (Ent κ)) (i:Nat),es≠[]->Instr.findNow d (key q) (es.map (entry key)) i=none
 | [],_,h=>Ge rfl h
 | e::r,i,_=>by simp only [Uq,Instr.findNow,entry,h]
theorem zjs(hK:MapKw P K key w S)(q:κ)(hq:S q)(es:List (Ent κ))(he:∀e∈es,S e.1):(Instr.findKey K (key q) (es.map (entry key))).run P w = .ok (jS q es 0) w:=by
 obtain⟨d,b,a⟩:=hK.desc;simp only[Instr.findKey,UJ,Ui b,KT];by_cases h:es=[]
 ·subst h;rfl
 ·rw[findNow_none (a q) es 0 h];exact ze8 hK q hq es 0 he
theorem zlR{f:κ->Option Value}{es:List (Ent κ)}(hf:∀q,asF es q=f q)(hn:(es.map (·.1)).Nodup)(hS:∀q v,f q=some v->S q):∀e∈es,S e.1:=fun e d=>by
 obtain⟨a,b,c⟩:=e;exact hS a b ((hf a).symm.trans (zl5 hn d))
theorem zqc{T elem:TypeId}(hK:MapKw P K key w S)(hu:P.underlying T=some (.map K elem)){z:Value}(hz:∀w,(zeroValue elem).run P w = .ok z w){r:Nat}{f:κ->Option Value}(h:MapF key w r f)(q:κ)(hS:∀q v,f q=some v->S q)(hq:S q)(ok:Bool) :
  (Instr.lookup T (.map (some r)) (key q) ok).run P w = .ok (if ok then .tuple #[(f q).getD z,.bool (f q).isSome] else(f q).getD z) w:=by
 obtain⟨b,a,i,c,d,_⟩:=h;have g:=zlR c d hS;have k:(getObj r).run P w = .ok (.map (b.map (entry key)).toArray a) w:=by simp[getObj,Sem.run,i]
 have e:asF b q=f q:=c q;unfold asF at e;simp only[Instr.lookup,UJ,Ui hu,KT,k,UK,hK.check q _,zjs hK q hq b g]
 cases hfl:jS q b 0 with
 | none =>
  rw[hfl] at e;simp only[QT] at e;simp only[UJ,hz w,KT,UK,<- e,Option.getD_none,Option.isSome_none]
  first | done | (cases ok <;> rfl)
 | some p =>
  obtain⟨j,v⟩:=p;rw[hfl] at e;simp only[QU] at e;simp only[<- e,Qv,Option.isSome_some]
  cases ok <;> rfl
theorem zkC{T elem:TypeId}(hK:MapKw P K key w S)(hu:P.underlying T=some (.map K elem)){r:Nat}{f:κ->Option Value}(h:MapF key w r f)(q:κ)(x:Value)(hS:∀q v,f q=some v->S q)(hq:S q) :
  ∃o,(Instr.mapUpdate T (.map (some r)) (key q) x).run P w = .ok () (w.putObj r o)/\MapF key (w.putObj r o) r (fun q'=>if q'=q then some x else f q'):=by
 obtain⟨d,c,hh,hf,hn,hb,hc⟩:=h;have ae:=zlR hf hn hS;have hg:(getObj r).run P w = .ok (.map (d.map (entry key)).toArray c) w:=by simp[getObj,Sem.run,hh]
 have s:∀o,(setObj r o).run P w = .ok () (w.putObj r o):=fun o=>by simp[setObj,Sem.run,hh,World.putObj]
 have e:asF d q=f q:=hf q;unfold asF at e;simp only[Instr.mapUpdate,UJ,Ui hu,KT,hg,hK.check q _,zjs hK q hq d ae]
 cases hfl:jS q d 0 with
 | none =>
  rw[hfl] at e;simp only[QT] at e;refine⟨.map ((d++[(q,x,c)]).map (entry key)).toArray (c+1),?_,?_⟩
  ·have n:(d.map (entry key)).toArray.push { key:=key q,val:=x,born:=c }=((d++[(q,x,c)]).map (entry key)).toArray:=by
    rw[<- KW];simp[entry]
   simp only[n,s]
  ·refine⟨d++[(q,x,c)],c+1,j3 hh,fun q'=>?_,?_,?_,?_⟩
   ·rw[zdG];by_cases hq:q'=q
    ·subst hq;rw[hf q',<- e];simp
    ·simp[hq,hf q']
   ·rw[QG,Uq,Ux];refine List.nodup_append.2 ⟨hn,by simp,?_⟩;intro a ha b l;simp only[Kv] at l;subst l;obtain⟨y,g,rfl⟩:=Uz.1 ha;exact zdy hfl y g
   ·rw[QG,Uq,Ux];refine List.nodup_append.2 ⟨hb,by simp,?_⟩;intro a ha b l;simp only[Kv] at l;subst l;obtain⟨y,g,rfl⟩:=Uz.1 ha;exact Nat.ne_of_lt (hc y g)
   ·intro y g;rw[QH] at g;rcases g with g | g
    ·exact Nat.lt_succ_of_lt (hc y g)
    ·simp only[Kv] at g;subst g;exact Qr _
 | some p =>
  obtain⟨j,v⟩:=p;obtain⟨b,_,z⟩:=zdx hfl;rw[UF] at z;have hm:(q,v,b)∈d:=JS z;have ab:(d.map (entry key)).toArray[j]?=some (entry key (q,v,b)):=by simp[z]
  have only:∀i (hi:i<d.length),(d[i]).2.2=b->i=j:=fun i hi m=>by
   obtain⟨ac,n⟩:=Jo.1 z;by_cases k:i=j
   ·exact k
   ·exfalso
    have h3:=(List.pairwise_iff_getElem.1 hb);rcases Nat.lt_or_gt_of_ne k with hlt | hlt
    ·exact h3 i j (by simpa using hi) (by simpa using ac) hlt (by simp[n,m])
    ·exact h3 j i (by simpa using ac) (by simpa using hi) hlt (by simp[n,m])
  have ad:∀y∈d,y.2.2=b->y.1=q:=fun y g m=>by
   obtain⟨i,hi,e1⟩:=Kd g;have:=only i hi (by rw[e1];exact m);subst this;obtain⟨_,n⟩:=Jo.1 z;rw[<- e1,n]
  have aa:(d.map (entry key)).toArray.modify j (fun e=>{ e with key:=key q,val:=x })=((d.map fun e=>if e.2.2=b then(e.1,x,e.2.2) else e).map (entry key)).toArray:=by
   apply Array.ext_getElem?;intro i;rw[Array.getElem?_modify];by_cases u:i<d.length
   ·by_cases k:j=i
    ·subst k;obtain⟨_,n⟩:=Jo.1 z;rw[Gd rfl,ab];simp[u,n,entry]
    ·rw[Gc k];have:¬(d[i]).2.2=b:=fun h=>k (only i u h).symm;simp[u,this]
   ·have h1:(d.map (entry key)).toArray[i]?=none:=(by simp;omega);have h2:((d.map fun e=>if e.2.2=b then(e.1,x,e.2.2) else e).map (entry key)).toArray[i]?=none:=(by simp;omega);rw[h1,h2];split <;> rfl
  refine⟨.map ((d.map fun e=>if e.2.2=b then(e.1,x,e.2.2) else e).map (entry key)).toArray c,?_,?_⟩
  ·simp only[ab,QU,Qv,entry,Instr.keyThatStays,hK.same q,Gb,UK,KT,UJ];have t:=aa;rw[t,s]
  ·refine⟨_,c,j3 hh,fun q'=>?_,?_,?_,?_⟩
   ·rw[zit x q q' d hn ⟨v,hm⟩ ad,hf q']
   ·have:(d.map fun e=>if e.2.2=b then(e.1,x,e.2.2) else e).map (·.1)=d.map (·.1):=by
     rw[Uw];apply Kf;intro e _;simp only[Ka];split <;> rfl
    rw[this];exact hn
   ·have:(d.map fun e=>if e.2.2=b then(e.1,x,e.2.2) else e).map (·.2.2)=d.map (·.2.2):=by
     rw[Uw];apply Kf;intro e _;simp only[Ka];split <;> rfl
    rw[this];exact hb
   ·intro e he;obtain⟨y,g,rfl⟩:=Uz.1 he
    split
    ·exact hc y g
    ·exact hc y g
end
end Go.Proofs.YtakcdebpklffiaaGreatDoor
namespace Go.Proofs.YtakcdebpklffiaaGreatDoor
open Go.Vc Go.RowKit Go.Sei
def bs (l:List UInt8):ByteArray:=⟨l.toArray⟩
def zJ (l:List UInt8):Value := .string (bs l)
theorem zl1(l:List UInt8):(bs l).data.toList=l:=rfl
theorem qt(x y:Operand)(a b:List UInt8)(w:Wd):(do eqGuard .eql 9 x y (zJ a) (zJ b);binOp .eql 9 (zJ a) (zJ b)).run PG w = .ok (.bool (decide (a=b))) w:=by
 have d:(eqGuard .eql 9 x y (zJ a) (zJ b)).run PG w = .ok () w:=rfl;rw[UJ,d,KT];show(Op.stringOp .eql (bs a) (bs b)).run PG w=_;simp only[Op.stringOp,UK,ByteArray.toList_eq,zl1];have c:(a == b)=decide (a=b):=by by_cases h:a=b <;> simp[h]
 rw[c]
theorem zp6(x y:Operand)(a b:List UInt8)(w:Wd):(do eqGuard .neq 9 x y (zJ a) (zJ b);binOp .neq 9 (zJ a) (zJ b)).run PG w = .ok (.bool (!decide (a=b))) w:=by
 have d:(eqGuard .neq 9 x y (zJ a) (zJ b)).run PG w = .ok () w:=rfl;rw[UJ,d,KT];show(Op.stringOp .neq (bs a) (bs b)).run PG w=_;simp only[Op.stringOp,UK,ByteArray.toList_eq,zl1];have c:(a == b)=decide (a=b):=by by_cases h:a=b <;> simp[h]
 rw[c]
end Go.Proofs.YtakcdebpklffiaaGreatDoor
namespace Go.Vc
open Go.RowKit
theorem brT{P Q:Prop}(h:P):(true=true->P)/\(true=false->Q):=⟨fun _=>h,fun h=>nomatch h⟩
theorem brF{P Q:Prop}(h:Q):(false=true->P)/\(false=false->Q):=⟨fun h=>(nomatch h),fun _=>h⟩
theorem brE{b:Bool}{P Q:Prop}(e:b=true)(h:P):(b=true->P)/\(b=false->Q):=⟨fun _=>h,fun h=>nomatch e.symm.trans h⟩
theorem brN{b:Bool}{P Q:Prop}(e:b=false)(h:Q):(b=true->P)/\(b=false->Q):=⟨fun h=>(nomatch e.symm.trans h),fun _=>h⟩
theorem qC{w w2:Wd}{b o:Nat}{vs:List Value}(hs:w2.heap[b]?=w.heap[b]?)(h:zF w ⟨b,o,none⟩ vs):zF w2 ⟨b,o,none⟩ vs:=by
 refine jF fun i v a=>?_;have:=zc h a;rw[<- this];unfold World.cell?;simp only[hs]
theorem q5{B:Nat}{w w2:Wd}{b o:Nat}{vs:List Value}(hb:Below B w w2)(hlt:b<B)(h:zF w ⟨b,o,none⟩ vs):zF w2 ⟨b,o,none⟩ vs :=
 qC (hb.block b hlt) h
def RowB {α:Type} (E:Enc α) (B:Nat) (w:Wd) (p:OA) (l:List α):Prop :=
 l=[]\/∃b o,p=some ⟨b,o,none⟩/\b<B/\zF w ⟨b,o,none⟩ (l.flatMap E.enc)
section
variable{α:Type}{E:Enc α}{B:Nat}{w w2:Wd}{p:OA}{l:List α}
theorem RowB.below(h:RowB E B w p l)(hb:Below B w w2):RowB E B w2 p l:=by
 rcases h with h | ⟨b,o,a,hlt,c⟩
 ·exact .inl h
 ·exact .inr ⟨b,o,a,hlt,q5 hb hlt c⟩
theorem RowB.mono{B':Nat}(h:RowB E B w p l)(hB:B<=B'):RowB E B' w p l:=by
 rcases h with h | ⟨b,o,a,hlt,c⟩
 ·exact .inl h
 ·exact .inr ⟨b,o,a,by omega,c⟩
theorem RowB.slr(h:RowB E B w p l)(hB:B<=w.heap.size):SlR E w p l:=by
 rcases h with rfl | ⟨b,o,rfl,hlt,a⟩
 ·exact .nil
 ·exact SlR.of_cells (by omega) a
theorem RowB.of_slr(h:SlR E w p l):RowB E w.heap.size w p l:=by
 by_cases a:l=[]
 ·exact .inl a
 ·rcases h with h | ⟨b,o,rfl,hlt,c⟩
  ·exact Ge h a
  ·exact .inr ⟨b,o,rfl,hlt,SlR.cells (.inr ⟨b,o,rfl,hlt,c⟩)⟩
theorem RowB.get(h:RowB E B w p l):∃b o,(l.length=0\/p=some ⟨b,o,none⟩)/\∀i (hi:i<l.length),b<B/\zF w ⟨b,o+i*E.sz,none⟩ (E.enc l[i]):=by
 rcases h with rfl | ⟨b,o,rfl,hlt,a⟩
 ·exact⟨0,0,.inl rfl,fun i hi=>by simp at hi⟩
 ·exact⟨b,o,.inr rfl,fun i hi=>⟨hlt,by rw[<- zcH l i hi];exact zI a⟩⟩
end
end Go.Vc
namespace Go.Proofs.YtakcdebpklffiaaGreatDoor
open Go.Vc Go.RowKit Go.Sei
def zeD:Enc (List UInt8):=⟨fun l=>[zJ l],1,fun _=>rfl,by decide,fun a u hu=>by
 simp only[Ur,Qm,Ga] at hu;subst hu;rfl⟩
def zS:Enc InsD:=⟨fun x=>[u8 x.op,u8 x.dst,u8 x.loc,.bool x.ar,u8 x.an,.bool x.br,u8 x.bn,u8 x.fn,u8 x.mode,u8 x.skip],10,fun _=>rfl,by decide,fun a u hu=>by
 simp only[Ur,Qm,Ga] at hu;rcases hu with rfl | rfl | rfl | rfl | rfl | rfl | rfl | rfl | rfl | rfl <;> rfl⟩
abbrev zk6:=List InsD×OA×Nat
def znC (x:zk6):Value := .slice x.2.1 x.1.length x.2.2
def znD:Enc zk6:=⟨fun x=>[znC x],1,fun _=>rfl,by decide,fun a u hu=>by
 simp only[Ur,Qm,Ga] at hu;subst hu;rfl⟩
def zu (c:Cnd) (p:OA) (cap:Nat):List Value:=[u8 c.kind,u8 c.thread,u8 c.n,u8 c.val,.slice p c.kids.length cap]
inductive KidsV (B:Nat) (w:Wd):OA->List Cnd->Prop
 | mk (p:OA) (kids:List Cnd) (hn:kids.length*32<=140737488351232) (b o:Nat) (hp:kids.length=0\/p=some ⟨b,o,none⟩) (q:Nat->OA) (c:Nat->Nat)
   (hk:∀i (h:i<kids.length),b<B/\zF w ⟨b,o+i*5,none⟩ (zu kids[i] (q i) (c i)))
   (ht:∀i (h:i<kids.length),KidsV B w (q i) kids[i].kids):KidsV B w p kids
theorem KidsV.inv{B:Nat}{w:Wd}{p:OA}{kids:List Cnd}(h:KidsV B w p kids):kids.length*32<=140737488351232/\∃b o,(kids.length=0\/p=some ⟨b,o,none⟩) /\
  ∀i (h:i<kids.length),∃q c,b<B/\zF w ⟨b,o+i*5,none⟩ (zu kids[i] q c)/\KidsV B w q kids[i].kids:=by
 cases h with
 | mk _ _ hn b o hp q c hk ht=>exact⟨hn,b,o,hp,fun i a=>⟨q i,c i,(hk i a).1,(hk i a).2,ht i a⟩⟩
theorem KidsV.kept{B:Nat}{w w2:Wd}{p:OA}{kids:List Cnd}(h:KidsV B w p kids)(hb:Below B w w2):KidsV B w2 p kids:=by
 induction h with
 | mk p kids hn b o hp q c hk ht ih=>exact .mk p kids hn b o hp q c (fun i a=>⟨(hk i a).1,q5 hb (hk i a).1 (hk i a).2⟩) ih
theorem KidsV.wider{B B':Nat}{w:Wd}{p:OA}{kids:List Cnd}(h:KidsV B w p kids)(hb:B<=B'):KidsV B' w p kids:=by
 induction h with
 | mk p kids hn b o hp q c hk ht ih=>exact .mk p kids hn b o hp q c (fun i a=>⟨nL (hk i a).1 hb,(hk i a).2⟩) ih
def ThrsV (B:Nat) (w:Wd) (p:OA) (l:List (List InsD)):Prop:=∃xs:List zk6,xs.map (·.1)=l/\RowB znD B w p xs/\∀x∈xs,RowB zS B w x.2.1 x.1
theorem ThrsV.below{B:Nat}{w w2:Wd}{p:OA}{l:List (List InsD)}(h:ThrsV B w p l)(hb:Below B w w2):ThrsV B w2 p l:=by
 obtain⟨c,e,d,a⟩:=h;exact⟨c,e,d.below hb,fun x b=>(a x b).below hb⟩
theorem ThrsV.mono{B B':Nat}{w:Wd}{p:OA}{l:List (List InsD)}(h:ThrsV B w p l)(hb:B<=B'):ThrsV B' w p l:=by
 obtain⟨c,e,d,a⟩:=h;exact⟨c,e,d.mono hb,fun x b=>(a x b).mono hb⟩
def jC (p:Prg) (p1:OA) (c1:Nat) (p2:OA) (c2:Nat) (p3:OA) (c3:Nat) (p4:OA) (c4:Nat):List Value :=
 [zJ p.name,.slice p1 p.locs.length c1,.slice p2 p.init.length c2,.slice p3 p.threads.length c3,u8 p.ask,u8 p.cond.kind,u8 p.cond.thread,u8 p.cond.n,u8 p.cond.val,.slice p4 p.cond.kids.length c4]
structure PrgLen (p:Prg):Prop where
 name:p.name.length<=140737488351232
 locs:p.locs.length<=140737488351232
 loc:∀s∈p.locs,s.length<=140737488351232
 init:p.init.length<=140737488351232
 threads:p.threads.length<=140737488351232
 thread:∀l∈p.threads,l.length<=140737488351232
structure PrgV (B:Nat) (w:Wd) (vs:List Value) (p:Prg):Prop where
 len:PrgLen p
 h:∃p1 c1 p2 c2 p3 c3 p4 c4,vs=jC p p1 c1 p2 c2 p3 c3 p4 c4/\RowB zeD B w p1 p.locs/\RowB zN B w p2 p.init/\ThrsV B w p3 p.threads/\KidsV B w p4 p.cond.kids/\p.locs.length<=c1
theorem PrgV.below{B:Nat}{w w2:Wd}{vs:List Value}{p:Prg}(h:PrgV B w vs p)(hb:Below B w w2):PrgV B w2 vs p:=by
 obtain⟨d,f,b,c,n,i,l,m,o,k,g,a,j,e⟩:=h.h;exact⟨h.len,d,f,b,c,n,i,l,m,o,k.below hb,g.below hb,a.below hb,j.kept hb,e⟩
theorem PrgV.mono{B B':Nat}{w:Wd}{vs:List Value}{p:Prg}(h:PrgV B w vs p)(hb:B<=B'):PrgV B' w vs p:=by
 obtain⟨d,f,b,c,n,i,l,m,o,k,g,a,j,e⟩:=h.h;exact⟨h.len,d,f,b,c,n,i,l,m,o,k.mono hb,g.mono hb,a.mono hb,j.wider hb,e⟩
theorem PrgV.size{B:Nat}{w:Wd}{vs:List Value}{p:Prg}(h:PrgV B w vs p):vs.length=10:=by
 obtain⟨c,d,a,b,i,e,f,g,rfl,_⟩:=h.h;rfl
def i64 (n:Int):Value := .int .i64 n
theorem zbb{off sz:Nat}{cs:List Value}{v:Value}{K:Value->Prop}(h:cs[off]?=some v)(k:K v):zdV off sz false cs K:=by
 unfold zdV;rw[h];exact k
def qe (f:FinV):Nat->Cnd->Bool
 | 0,_=>false
 | r+1,c =>
  if c.kind=0 then true
  else if c.kind=1 then decide (c.thread.toNat<4)&&(decide (c.n.toNat<8)&&decide (f.reg c.thread.toNat c.n.toNat=c.val))
  else if c.kind=2 then decide (c.n.toNat<6)&&decide (f.mem c.n.toNat=c.val)
  else if c.kind=3 then c.kids.all (qe f r)
  else if c.kind=4 then c.kids.any (qe f r)
  else if c.kind=5 then !c.kids.all (qe f r)
  else false
inductive KidsG (B:Nat) (w:Wd):OA->List Cnd->Prop
 | mk (p:OA) (kids:List Cnd) (hn:kids.length<=140737488351232) (g o:Nat)
   (hp:kids.length=0\/(p=some ⟨g,o,none⟩/\g<B/\∃(cs:Array Value) (t:TypeId),w.heap[g]?=some (.cells cs t (0,0)))) (q:Nat->OA) (c:Nat->Nat)
   (hk:∀i (h:i<kids.length),zF w ⟨g,o+i*5,none⟩ (zu kids[i] (q i) (c i)))
   (ht:∀i (h:i<kids.length),KidsG B w (q i) kids[i].kids):KidsG B w p kids
section
variable{B:Nat}{w w2:Wd}{p:OA}{kids:List Cnd}
theorem KidsG.inv(h:KidsG B w p kids):kids.length<=140737488351232/\∃g o,(kids.length=0\/(p=some ⟨g,o,none⟩/\g<B/\∃(cs:Array Value) (t:TypeId),w.heap[g]?=some (.cells cs t (0,0)))) /\
  ∀i (h:i<kids.length),∃q c,zF w ⟨g,o+i*5,none⟩ (zu kids[i] q c)/\KidsG B w q kids[i].kids:=by
 cases h with
 | mk _ _ hn g o hp q c hk ht=>exact⟨hn,g,o,hp,fun i a=>⟨q i,c i,hk i a,ht i a⟩⟩
theorem KidsG.by(hs:∀(g:Nat) (cs:Array Value) (t:TypeId),g<B->w.heap[g]?=some (.cells cs t (0,0))->w2.heap[g]?=w.heap[g]?)(h:KidsG B w p kids):KidsG B w2 p kids:=by
 induction h with
 | mk p kids hn g o a q c hk ht ih =>
  have same:kids.length≠0->w2.heap[g]?=w.heap[g]?:=fun b=>by
   rcases a with a | ⟨_,e,cs,t,d⟩
   ·exact Ge a b
   ·exact hs g cs t e d
  refine .mk p kids hn g o ?_ q c (fun i j=>qC (same (by omega)) (hk i j)) ih;rcases a with a | ⟨a,e,cs,t,d⟩
  ·exact .inl a
  ·by_cases b:kids.length=0
   ·exact .inl b
   ·exact .inr ⟨a,e,cs,t,(same b).trans d⟩
theorem KidsG.kept(h:KidsG B w p kids)(hb:Below B w w2):KidsG B w2 p kids:=h.by fun g b t a _=>hb.block g a
theorem KidsG.wider{B':Nat}(h:KidsG B w p kids)(hb:B<=B'):KidsG B' w p kids:=by
 induction h with
 | mk p kids hn g o hp q c hk ht ih=>exact .mk p kids hn g o (hp.imp id fun h=>⟨h.1,nL h.2.1 hb,h.2.2⟩) q c hk ih
end
theorem zhJ{a b:UInt8}(h:u8 a=u8 b):a=b:=by
 unfold u8 at h;injection h with _ h;exact QW.1 (by omega)
theorem Cnd.ext{a b:Cnd}(h1:a.kind=b.kind)(h2:a.thread=b.thread)(h3:a.n=b.n)(h4:a.val=b.val)(h5:a.kids=b.kids):a=b:=by
 cases a;cases b
 simp only[Cnd.kind,Cnd.thread,Cnd.n,Cnd.val,Cnd.kids] at h1 h2 h3 h4 h5;rw[h1,h2,h3,h4,h5]
theorem KidsG.det{B:Nat}{w:Wd}{p:OA}{a:List Cnd}(h:KidsG B w p a):∀{b:List Cnd},KidsG B w p b->a.length=b.length->a=b:=by
 induction h with
 | mk p kids hn g o l q c hk ht ih =>
  intro b hb hl;obtain⟨_,g2,o2,d,n⟩:=hb.inv;apply List.ext_getElem hl;intro i x z;obtain⟨q2,y,u,t⟩:=n i z;have e:g=g2/\o=o2:=by
   rcases l with l | ⟨l,_,_⟩
   ·omega
   ·rcases d with d | ⟨d,_,_⟩
    ·omega
    ·rw[l] at d;injection d with d;injection d with r m;exact⟨r,m⟩
  obtain⟨rfl,rfl⟩:=e;have hc:=hk i x;have k:∀j v s,(zu kids[i] (q i) (c i))[j]?=some v->(zu b[i] q2 y)[j]?=some s->v=s:=fun j v s r m=>QV ((zc hc r).symm.trans (zc u m));have e4:=k 4 _ _ rfl rfl;injection e4 with eq1 eq2 eq3;subst eq1;exact Cnd.ext (zhJ (k 0 _ _ rfl rfl)) (zhJ (k 1 _ _ rfl rfl)) (zhJ (k 2 _ _ rfl rfl)) (zhJ (k 3 _ _ rfl rfl)) (ih i x t eq2)
abbrev PlK:=Nat×Nat×Nat×Nat
def plV (k:PlK):Value := .agg #[.pointer (some ⟨k.1,k.2.1,none⟩),i64 (k.2.2.1:Nat),i64 (k.2.2.2:Nat)]
def zk5 (f:FinV) (d:Nat) (l:List Cnd):Value := .agg #[.bool (l.any (qe f (21-d))),.bool (l.all (qe f (21-d)))]
def PlainAt (w:Wd) (k:PlK):Prop:=∃(cs:Array Value) (t:TypeId),w.heap[k.1]?=some (.cells cs t (0,0))
theorem KidsG.plain{B:Nat}{w:Wd}{p:OA}{l:List Cnd}(h:KidsG B w p l)(h0:l.length≠0):∃b o,p=some ⟨b,o,none⟩/\b<B/\(∃(cs:Array Value) (t:TypeId),w.heap[b]?=some (.cells cs t (0,0)))/\∀i (h:i<l.length),∃q c,zF w ⟨b,o+i*5,none⟩ (zu l[i] q c)/\KidsG B w q l[i].kids:=by
 obtain⟨_,g,o,a,e⟩:=h.inv;rcases a with a | ⟨a,j,d⟩
 ·exact Ge a h0
 ·exact⟨g,o,a,j,d,e⟩
def KnowOk (B:Nat) (f:FinV) (w:Wd) (g:PlK->Option Value):Prop:=∀k v,g k=some v->∃l,KidsG B w (some ⟨k.1,k.2.1,none⟩) l/\l.length=k.2.2.1/\l.length≠0/\v=zk5 f k.2.2.2 l
section
variable{B:Nat}{f:FinV}{w w2:Wd}{g:PlK->Option Value}
theorem KnowOk.nil:KnowOk B f w fun _=>none:=fun k v h=>by cases h
theorem KnowOk.at(h:KnowOk B f w g){k:PlK}{v:Value}(e:g k=some v):PlainAt w k:=by
 obtain⟨l,d,_,a,_⟩:=h k v e;obtain⟨b,o,c,_,i,_⟩:=d.plain a
 cases c
 exact i
theorem KnowOk.use(h:KnowOk B f w g){b o d:Nat}{l:List Cnd}{v:Value}(hk:KidsG B w (some ⟨b,o,none⟩) l)(e:g (b,o,l.length,d)=some v):v=zk5 f d l:=by
 obtain⟨j,i,a,_,c⟩:=h _ v e;rw[c,KidsG.det hk i a.symm]
theorem KnowOk.add(h:KnowOk B f w g){b o d:Nat}{l:List Cnd}(hk:KidsG B w (some ⟨b,o,none⟩) l)(h0:l.length≠0):KnowOk B f w fun k=>if k=(b,o,l.length,d) then some (zk5 f d l) else g k:=fun k v e=>by
 dsimp only at e
 split at e
 ·rename_i a;subst a;exact⟨l,hk,rfl,h0,(QV e).symm⟩
 ·exact h k v e
theorem KnowOk.by(hs:∀(g:Nat) (cs:Array Value) (t:TypeId),g<B->w.heap[g]?=some (.cells cs t (0,0))->w2.heap[g]?=w.heap[g]?)(h:KnowOk B f w g):KnowOk B f w2 g:=fun k v e=>by
 obtain⟨l,b,a⟩:=h k v e;exact⟨l,b.by hs,a⟩
end
end Go.Proofs.YtakcdebpklffiaaGreatDoor
