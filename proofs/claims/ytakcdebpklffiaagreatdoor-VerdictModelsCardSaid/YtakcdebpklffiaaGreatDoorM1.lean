/- Contracts of functions, and plain facts, for the law that the last text of this claim proves. -/
import Derived.CallsIn
import Derived.OrdersIn
import Derived.Below
import Derived.RangeFuncLeaves
import Derived.Laws.StructEq
import Derived.Laws.Rows
import Derived.RangeFuncSeq
import Derived.Deep.LoopGhost
import Derived.Laws.AppendOwn
import Derived.Maps.AppendAt
import Derived.Laws.AppendOwnNone
import GoSem.Instr.MapEntry
import Derived.ChangeKeysEq
import Derived.Lib.AppendZerosOnto
import Derived.Laws.OwnMore
import Derived.KernelRfl
import Derived.Test.YtakcdebpklffiaaGreatDoorProg
import Derived.Laws.BytesArg
import Derived.Laws.Strings
import Derived.LaidEql
set_option linter.unusedSimpArgs false
set_option linter.unusedVariables false
namespace Go
abbrev Ja:=@Nat.exists_ge_and_testBit_of_ge_two_pow
abbrev Jb:=@List.set_eq_take_append_cons_drop
abbrev Jc:=@Array.all_eq_true_iff_forall_mem
abbrev Jd:=@List.eq_nil_iff_forall_not_mem
abbrev Je:=@List.drop_append_of_le_length
abbrev Jf:=@List.eq_nil_of_length_eq_zero
abbrev Jg:=@List.take_append_of_le_length
abbrev Jh:=@Array.getElem?_setIfInBounds
abbrev Ji:=@Array.getD_eq_getD_getElem?
abbrev Jj:=@List.drop_length_add_append
abbrev Jk:=@Array.getElem?_eq_some_iff
abbrev Jl:=@Int.fdiv_eq_ediv_of_nonneg
abbrev Jm:=@List.getElem?_append_right
abbrev Jn:=@Array.getElem?_eq_getElem
abbrev Jo:=@Classical.byContradiction
abbrev Jp:=@List.drop_eq_getElem_cons
abbrev Jq:=@List.getElem?_append_left
abbrev Jr:=@List.getElem?_eq_some_iff
abbrev Js:=@List.isEmpty_eq_false_iff
abbrev Jt:=@List.eq_of_mem_replicate
abbrev Ju:=@List.getElem?_cons_succ
abbrev Jv:=@List.head_eq_of_cons_eq
abbrev Jw:=@Nat.add_sub_cancel_left
abbrev Jy:=@Go.World.block_lt_of_cell?
abbrev Jz:=@List.drop_eq_nil_of_le
abbrev JA:=@List.drop_of_length_le
abbrev JB:=@List.filter_eq_nil_iff
abbrev JC:=@List.getElem?_set_self
abbrev JD:=@List.getElem_cons_drop
abbrev JE:=@List.take_of_length_le
abbrev JF:=@Nat.testBit_lt_two_pow
abbrev JH:=@Array.mem_of_getElem?
abbrev JI:=@List.getElem?_eq_none
abbrev JJ:=@List.getElem?_reverse
abbrev JK:=@List.length_filter_le
abbrev JL:=@List.length_replicate
abbrev JM:=@List.mem_append_right
abbrev JN:=@List.set_append_right
abbrev JO:=@List.take_append_drop
abbrev JP:=@Nat.eq_of_beq_eq_true
abbrev JQ:=@Nat.le_of_ble_eq_true
abbrev JR:=@Array.toList_extract
abbrev JS:=@List.contains_eq_mem
abbrev JT:=@List.getElem?_set_ne
abbrev JU:=@List.mem_append_left
abbrev JV:=@List.mem_cons_of_mem
abbrev JW:=@List.mem_of_getElem?
abbrev JY:=@List.mem_of_mem_take
abbrev JZ:=@List.pairwise_append
abbrev Ka:=@List.reverse_reverse
abbrev Kb:=@Nat.div_lt_of_lt_mul
abbrev Kc:=@Nat.eq_of_testBit_eq
abbrev Kd:=@Nat.mul_le_mul_right
abbrev Ke:=@Nat.pow_le_pow_right
abbrev Kf:=@Nat.pow_lt_pow_right
abbrev Kg:=@Function.comp_apply
abbrev Kh:=@List.flatMap_append
abbrev Ki:=@List.getElem?_range
abbrev Kj:=@List.getElem_of_mem
abbrev Kk:=@List.length_reverse
abbrev Kl:=@List.map_congr_left
abbrev Km:=@List.mem_map_of_mem
abbrev Kn:=@List.reverse_append
abbrev Ko:=@List.takeWhile_cons
abbrev Kq:=@Nat.testBit_two_pow
abbrev Kr:=@Go.run_enterLoop_outer
abbrev Ks:=@Array.foldl_toList
abbrev Kt:=@BitVec.toNat_ofInt
abbrev Ku:=@Bool.false_eq_true
abbrev Kv:=@Bool.false_ne_true
abbrev Kw:=@List.filter_append
abbrev Kx:=@List.getElem?_drop
abbrev Ky:=@List.getElem?_take
abbrev Kz:=@List.getElem_range
abbrev KA:=@List.mem_cons_self
abbrev KB:=@List.mem_singleton
abbrev KC:=@List.ne_nil_of_mem
abbrev KD:=@List.set_cons_succ
abbrev KE:=@Nat.and_one_is_mod
abbrev KF:=@Nat.lt_of_le_of_lt
abbrev KG:=@Nat.pos_of_ne_zero
abbrev KH:=@UInt8.toNat_ofNat'
abbrev KI:=@Bool.not_eq_true'
abbrev KJ:=@Go.DataW.trod_struct
abbrev KK:=@Int.toNat_natCast
abbrev KL:=@List.all_eq_false
abbrev KM:=@List.any_eq_false
abbrev KN:=@List.append_assoc
abbrev KO:=@List.ext_getElem?
abbrev KQ:=@List.filter_congr
abbrev KR:=@List.flatMap_cons
abbrev KS:=@List.foldl_append
abbrev KT:=@List.getElem?_map
abbrev KU:=@List.length_range
abbrev KV:=@List.reverse_cons
abbrev KW:=@List.size_toArray
abbrev KX:=@Nat.or_lt_two_pow
abbrev KY:=@Option.some.injEq
abbrev KZ:=@Result.andThen_ok
abbrev Qa:=@not_true_eq_false
abbrev Qb:=@Go.run_storeCells_at
abbrev Qc:=@Array.toList_inj
abbrev Qd:=@Array.toList_map
abbrev Qe:=@BitVec.toNat_and
abbrev Qf:=@Bool.not_eq_true
abbrev Qg:=@List.all_eq_true
abbrev Qh:=@List.any_eq_true
abbrev Qi:=@List.cons_append
abbrev Qj:=@List.drop_length
abbrev Qk:=@List.filter_cons
abbrev Ql:=@List.flatMap_map
abbrev Qm:=@List.flatMap_nil
abbrev Qn:=@List.getElem_map
abbrev Qo:=@List.isEmpty_iff
abbrev Qp:=@List.length_cons
abbrev Qq:=@List.length_drop
abbrev Qr:=@List.length_take
abbrev Qs:=@List.not_mem_nil
abbrev Qt:=@List.take_length
abbrev Qu:=@Nat.and_le_right
abbrev Qv:=@Nat.le_add_right
abbrev Qw:=@Nat.lt_of_not_le
abbrev Qx:=@Nat.lt_succ_self
abbrev Qy:=@Nat.min_le_right
abbrev Qz:=@Nat.mod_eq_of_lt
abbrev QA:=@Nat.zero_testBit
abbrev QB:=@Option.getD_some
abbrev QC:=@decide_eq_decide
abbrev QD:=@Bool.or_eq_true
abbrev QE:=@Int.natCast_mul
abbrev QF:=@List.all_append
abbrev QG:=@List.append_nil
abbrev QH:=@List.cons.injEq
abbrev QI:=@List.foldl_cons
abbrev QJ:=@List.length_map
abbrev QK:=@List.length_nil
abbrev QL:=@List.length_set
abbrev QM:=@List.map_append
abbrev QN:=@List.mem_append
abbrev QO:=@List.mem_filter
abbrev QQ:=@List.nil_append
abbrev QR:=@List.nodup_cons
abbrev QS:=@List.range_succ
abbrev QT:=@List.take_left'
abbrev QU:=@Nat.and_le_left
abbrev QV:=@Nat.div_add_mod
abbrev QW:=@Nat.min_eq_left
abbrev QX:=@Nat.not_lt_zero
abbrev QY:=@Nat.testBit_and
abbrev QZ:=@Nat.two_pow_pos
abbrev Ua:=@Option.map_none
abbrev Ub:=@Option.map_some
abbrev Uc:=@Option.some.inj
abbrev Ud:=@UInt8.toNat_inj
abbrev Ue:=@decide_eq_false
abbrev Uf:=@Bool.and_false
abbrev Ug:=@Bool.false_and
abbrev Uh:=@List.drop_drop
abbrev Ui:=@List.drop_left
abbrev Uj:=@List.drop_zero
abbrev Uk:=@List.mapM_cons
abbrev Ul:=@List.mem_range
abbrev Um:=@List.take_zero
abbrev Un:=@Nat.mul_le_mul
abbrev Uo:=@Nat.testBit_or
abbrev Up:=@decide_eq_true
abbrev Uq:=@Go.run_underlying
abbrev Ur:=@Go.Addr.mk.injEq
abbrev Us:=@Bool.false_or
abbrev Ut:=@Bool.not_true
abbrev Uu:=@Bool.or_false
abbrev Uv:=@Bool.true_and
abbrev Uw:=@Int.ofNat.inj
abbrev Ux:=@List.all_cons
abbrev Uy:=@List.any_cons
abbrev Uz:=@List.map_cons
abbrev UA:=@List.mem_cons
abbrev UB:=@Nat.add_assoc
abbrev UC:=@Nat.mul_assoc
abbrev UD:=@Prod.mk.injEq
abbrev UE:=@Bool.not_not
abbrev UF:=@List.map_map
abbrev UG:=@List.map_nil
abbrev UH:=@List.map_set
abbrev UI:=@List.mem_map
abbrev UJ:=@Nat.add_comm
abbrev UK:=@Nat.add_zero
abbrev UL:=@Nat.le_trans
abbrev UM:=@Nat.mul_comm
abbrev UN:=@Nat.sub_self
abbrev UO:=@Nat.sub_zero
abbrev UP:=@Nat.succ_mul
abbrev UQ:=@Nat.zero_add
abbrev UR:=@Nat.zero_mul
abbrev US:=@Sem.run_bind
abbrev UT:=@Sem.run_pure
abbrev UU:=@decide_false
abbrev UV:=@Nat.add_mul
abbrev UW:=@Nat.le_refl
abbrev UX:=@Nat.mul_one
abbrev UY:=@Nat.one_mul
abbrev UZ:=@Nat.zero_le
abbrev Ga:=@Go.run_endLoop
abbrev Gb:=@Go.RowKit.Below.refl
abbrev Gc:=@Nat.ble_eq
abbrev Gd:=@Nat.blt_eq
abbrev Ge:=@Nat.mod_lt
abbrev Gf:=@And.intro
abbrev Gg:=@Go.wpIn_mono
abbrev Gh:=@and_true
abbrev Gi:=@congrArg
abbrev Gj:=@if_false
abbrev Gk:=@or_false
abbrev Gl:=@if_true
abbrev Gm:=@if_neg
abbrev Gn:=@if_pos
abbrev Gp:=@absurd
abbrev Wd:=World
abbrev OA:=Option Addr
noncomputable abbrev PG:=Go.Proofs.Tryz.prog
end Go
namespace Go
open Go.RowKit
abbrev At0 (b:Nat):Value := .pointer (some ⟨b,0,none⟩)
theorem gE{α:Type _}{l:List α}{i:Nat}(h:i<l.length):l[i]?=some l[i]:=List.getElem?_eq_getElem h
theorem bAT(a b:Bool):((a&&b)=true)=(a=true/\b=true):=Bool.and_eq_true a b
theorem dE{p:Prop}[Decidable p]:(decide p=true)=p:=decide_eq_true_eq
theorem cmo{P:Program}{f:FuncId}{args:Array Value}{w:Wd}{R R':Ending->Wd->Prop}(h:Calls P f args w R)(k:∀e w',R e w'->R' e w'):Calls P f args w R':=h.mono k
theorem nL{a b c:Nat}(h:a<b)(k:b<=c):a<c:=Nat.lt_of_lt_of_le h k
theorem wz(w:Wd)(o:Obj):(w.alloc o).heap.size=w.heap.size+1:=World.size_alloc w o
theorem lap{α:Type _}{a b:List α}:(a++b).length=a.length+b.length:=List.length_append
theorem tsg{α:Type _}{i:Nat}{l:List α}(h:i<l.length):l.take (i+1)=l.take i++[l[i]]:=List.take_succ_eq_append_getElem h
theorem gDe{α:Type _}{l:List α}{i:Nat}{a:α}:l.getD i a=(l[i]?).getD a:=List.getD_eq_getElem?_getD
theorem gM{α:Type _}{l:List α}{i:Nat}(h:i<l.length):l[i]∈l:=List.getElem_mem h
theorem zdc{n k:Nat}(h:k<n):n-(k+1)<n-k:=by omega
abbrev Bw (w X:Wd):Prop:=Below w.heap.size w X
theorem zst{w X Y:Wd}(a:Below w.heap.size w X)(b:Below X.heap.size X Y):Below w.heap.size w Y:=a.trans (b.mono a.size)
theorem zba(w:Wd)(o:Obj):Below w.heap.size w (w.alloc o):=(Gb _ w).alloc (UW _) _
theorem dT{p:Prop}[Decidable p](h:decide p=true):p:=of_decide_eq_true h
theorem dF{p:Prop}[Decidable p](h:decide p=false):¬p:=of_decide_eq_false h
end Go
namespace Go.Vc
open Go.RowKit
def FR (r:Option Nat):Fence:={ fn:=fun _=>True,depth:=none,alive:=false,round:=r }
abbrev VEnv:=List (Nat×Value)
def VEnv.find:VEnv->Nat->Option Value
 | [],_=>none
 | (k,v)::r,t=>match Nat.beq k t with
  | true=>some v
  | false=>VEnv.find r t
structure Env where
 vs:VEnv
 ds:List Deferred:=[]
def Env.find (E:Env) (t:Nat):Option Value:=VEnv.find E.vs t
inductive TK where
 | other | bool | string | int (k:IntKind) | slice (e esz:Nat) | array (n e esz:Nat) (eagg:Bool) | struct (fs:List (Nat×Nat×Bool)) | map (k v:Nat) | ptr (e:Nat)
structure TI where
 kind:TK
 size:Nat
 agg:Bool
 bytes:Nat
 zero:Option (List Value)
abbrev TT:=List (Nat×TI)
def TT.get:TT->Nat->Option TI
 | [],_=>none
 | (k,v)::r,t=>match Nat.beq k t with
  | true=>some v
  | false=>TT.get r t
def zf7 (d:TypeDesc):Bool:=match d with | .struct _ | .array _ _=>true | _=>false
def zhk (P:Program) (t:Nat):Prop:=(∃i,P.info? t=some i)/\∃d,P.underlying t=some d
structure TIok (P:Program) (t:Nat) (i:TI):Prop where
 info:∃inf,P.info? t=some inf/\inf.size=i.size/\inf.bytes=i.bytes/\∀z,i.zero=some z->∃v,inf.zero=some v/\v.cells.toList=z
 desc:∃d,P.underlying t=some d/\zf7 d=i.agg /\
  match i.kind with
  | .other=>True
  | .bool=>d = .bool
  | .string=>d = .string
  | .int k=>d = .int k
  | .slice e esz=>d = .slice e/\P.cellsOf e=esz/\zhk P e
  | .array n e esz eagg=>d = .array n e/\P.cellsOf e=esz/\((P.underlying e).map zf7).getD false=eagg/\zhk P e
  | .struct fs=>∃F:Array Field,d = .struct F/\fs=F.toList.map (fun f=>(f.offset,P.cellsOf f.type,((P.underlying f.type).map zf7).getD false))/\∀f∈F.toList,zhk P f.type
  | .map k v=>d = .map k v
  | .ptr e=>d = .pointer e
def zmv (g:Nat):List Nat->Bool
 | []=>true
 | x::r=>match Nat.beq x g with
  | true=>false
  | false=>zmv g r
structure Sig where
 P:Program
 τ:TT
 n:Nat
 lo:Nat
 hi:Nat
 r:Option Nat:=none
 no:List Nat:=[]
structure SigOk (S:Sig):Prop where
 ty:∀t i,TT.get S.τ t=some i->TIok S.P t i
 call:∀g,S.lo<=g->g<S.hi->zmv g S.no=true->∀args w,(callFunc g args).run S.P w = .ok (.enter g args) w
 mixed:S.P.follows .mixedOrders=true
structure Agrees (S:Sig) (a:Act) (E:Env):Prop where
 size:a.tmps.size=S.n
 defers:a.defers=E.ds
 val:∀t v,Env.find E t=some v->a.tmps[t]?=some v
def opd (E:Env):Operand->Option Value
 | .tmp t=>Env.find E t
 | .const v=>some v
 | .global g=>some (.pointer (some ⟨g,0,none⟩))
 | .func f=>some (.func (.func f) #[] #[])
theorem Agrees.eval{S:Sig}{a:Act}{E:Env}(h:Agrees S a E){x:Operand}{v:Value}(hx:opd E x=some v):a.eval x=v:=by
 cases x with
 | tmp t =>
  have:=h.val t v hx;simp[Act.eval,this]
 | const u=>simpa [opd,Act.eval] using hx
 | global g=>simpa [opd,Act.eval] using hx
 | func f=>simpa [opd,Act.eval] using hx
inductive CovL (E:VEnv):VEnv->Prop
 | nil:CovL E []
 | cons {t:Nat} {v:Value} {r:VEnv} (h:VEnv.find E t=some v) (k:CovL E r):CovL E ((t,v)::r)
structure Cov (E E0:Env):Prop where
 c:CovL E.vs E0.vs
 d:E.ds=E0.ds
theorem CovL.find{E E0:VEnv}(h:CovL E E0):∀t v,VEnv.find E0 t=some v->VEnv.find E t=some v:=by
 induction h with
 | nil=>intro t v h;simp [VEnv.find] at h
 | @cons t u r h _ ih =>
  intro b v a;simp only[VEnv.find] at a
  cases hb:Nat.beq t b with
  | true =>
   rw[hb] at a;have:t=b:=JP hb;subst this;simp only[KY] at a;subst a;exact h
  | false=>rw [hb] at a;exact ih b v a
theorem Agrees.cov{S:Sig}{a:Act}{E E0:Env}(h:Agrees S a E)(c:Cov E E0):Agrees S a E0 :=
 ⟨h.size,h.defers.trans c.d,fun t v b=>h.val t v (c.c.find t v b)⟩
def zhm (dst:Option Nat) (v:Value) (E:Env):Env:=match dst with | some d=>⟨(d,v)::E.vs,E.ds⟩ | none=>E
def zpx (n:Nat):Option Nat->Bool
 | none=>true
 | some d=>Nat.blt d n
theorem Agrees.put{S:Sig}{a:Act}{E:Env}(h:Agrees S a E){dst:Option Nat}(hd:zpx S.n dst=true)(v:Value):Agrees S (a.put dst v) (zhm dst v E):=by
 cases dst with
 | none=>exact h
 | some d =>
  have c:d<S.n:=by simpa [zpx,Gd] using hd
  refine⟨by simp[Act.put,h.size],h.defers,fun t u b=>?_⟩;simp only[zhm,Env.find,VEnv.find] at b
  cases hb:Nat.beq d t with
  | true =>
   rw[hb] at b;have e:d=t:=JP hb;subst e;simp only[KY] at b;subst b;simp[Act.put,h.size,c]
  | false =>
   rw[hb] at b;have e:d≠t:=fun e=>by subst e;simp at hb
   have:=h.val t u b;simp[Act.put,e,this]
def Ar (k:IntKind) (e:Int) (K:Value->Prop):Prop:=∃r,k.wrap e=r/\K (.int k r)
def zI (w:Wd) (p:Addr) (vs:List Value):Prop:=∀i v,vs[i]?=some v->w.cell? (p.add i)=some v
def SatR {α:Type} (r:Result α) (K:α->Wd->Prop):Prop:=∃v w',r = .ok v w'/\K v w'
theorem SatR.mk{α:Type}{r:Result α}{K:α->Wd->Prop}{v:α}{w':Wd}(h:r = .ok v w')(k:K v w'):SatR r K:=⟨v,w',h,k⟩
def Br (b:Bool) (A B:Prop):Prop:=(b=true->A)/\(b=false->B)
def zwl (P:Program) (d:TypeDesc):TK->Bool
 | .other=>true
 | .bool=>(match d with | .bool=>true | _=>false)
 | .string=>(match d with | .string=>true | _=>false)
 | .int k=>(match d with | .int k'=>decide (k'=k) | _=>false)
 | .slice e esz=>(match d with | .slice e'=>Nat.beq e' e&&Nat.beq (P.cellsOf e) esz&&(P.info? e).isSome&&(P.underlying e).isSome | _=>false)
 | .array n e esz eagg=>(match d with | .array n' e'=>Nat.beq n' n&&Nat.beq e' e&&Nat.beq (P.cellsOf e) esz&&(((P.underlying e).map zf7).getD false == eagg)&&(P.info? e).isSome&&(P.underlying e).isSome | _=>false)
 | .struct fs=>(match d with
  | .struct F=>decide (fs=F.toList.map (fun f=>(f.offset,P.cellsOf f.type,((P.underlying f.type).map zf7).getD false)))&&F.toList.all fun f=>(P.info? f.type).isSome&&(P.underlying f.type).isSome
  | _=>false)
 | .map k v=>(match d with | .map k' v'=>Nat.beq k' k&&Nat.beq v' v | _=>false)
 | .ptr e=>(match d with | .pointer e'=>Nat.beq e' e | _=>false)
def ztw (P:Program) (t:Nat) (i:TI):Bool :=
 match P.underlying t with
 | some d=>(zf7 d == i.agg)&&zwl P d i.kind
 | none=>false
theorem jc{P:Program}{t:Nat}(h1:(P.info? t).isSome=true)(h2:(P.underlying t).isSome=true):zhk P t :=
 ⟨Option.isSome_iff_exists.1 h1,Option.isSome_iff_exists.1 h2⟩
theorem zyp{P:Program}{t:Nat}{i:TI}(h1:(P.info? t).map (fun x=>(x.size,x.bytes))=some (i.size,i.bytes))
  (h2:∀z,i.zero=some z->((P.info? t).bind (fun x=>x.zero)).map (fun v=>v.cells.toList)=some z) (h3:ztw P t i=true):TIok P t i:=by
 obtain⟨l,m,j⟩:=Option.map_eq_some_iff.1 h1;simp only[UD] at j;refine⟨⟨l,m,j.1,j.2,fun z q=>?_⟩,?_⟩
 ·have:=h2 z q;rw[m] at this;obtain⟨v,p,u⟩:=Option.map_eq_some_iff.1 this;exact⟨v,p,u⟩
 ·unfold ztw at h3
  split at h3
  ·rename_i d s;simp only[bAT,beq_iff_eq] at h3;refine⟨d,s,h3.1,?_⟩;have h:=h3.2;generalize i.kind=k at h
   cases k <;> simp only[zwl] at h
   case other=>trivial
   case bool=>split at h <;> simp_all
   case string=>split at h <;> simp_all
   case int k=>split at h <;> simp_all
   case slice e esz =>
    split at h
    ·simp only[bAT] at h;obtain⟨⟨⟨a,b⟩,c⟩,e⟩:=h;exact⟨by rw[JP a],JP b,jc c e⟩
    ·cases h
   case array n e esz eagg =>
    split at h
    ·simp only[bAT,beq_iff_eq] at h;obtain⟨⟨⟨⟨⟨a,b⟩,c⟩,e⟩,f⟩,g⟩:=h;have r:=JP a;have w:=JP b;subst r w;exact⟨rfl,JP c,e,jc f g⟩
    ·cases h
   case struct fs =>
    split at h
    ·rename_i F;simp only[bAT,dE,Qg] at h;exact⟨F,rfl,h.1,fun f o=>jc (h.2 f o).1 (h.2 f o).2⟩
    ·cases h
   case map k v =>
    split at h
    ·simp only[bAT] at h;rw[JP h.1,JP h.2]
    ·cases h
   case ptr e =>
    split at h
    ·rw[JP h]
    ·cases h
  ·cases h3
inductive TTok (P:Program):TT->Prop
 | nil:TTok P []
 | cons {t:Nat} {i:TI} {r:TT} (h:TIok P t i) (k:TTok P r):TTok P ((t,i)::r)
theorem TTok.get{P:Program}:∀{τ:TT},TTok P τ->∀t i,TT.get τ t=some i->TIok P t i
 | [],_,t,i,h=>by simp [TT.get] at h
 | (u,j)::r,.cons hj hr,t,i,h=>by
  simp only[TT.get] at h
  cases hb:Nat.beq u t with
  | true =>
   rw[hb] at h;simp only[KY] at h;have e:=JP hb;subst e h;exact hj
  | false=>rw [hb] at h;exact hr.get t i h
def ztJ (P:Program) (lo hi:Nat) (no:List Nat):Bool :=
 (List.range (hi-lo)).all fun k=>match zmv (lo+k) no with
  | false=>true
  | true=>match P.funcs[lo+k]? with
   | some fn => fn.name != "runtime.NumGoroutine" && fn.body.isSome
   | none=>false
theorem zxu{P:Program}{lo hi:Nat}{no:List Nat}(h:ztJ P lo hi no=true):∀g,lo<=g->g<hi->zmv g no=true->∀args w,(callFunc g args).run P w = .ok (.enter g args) w:=by
 intro g e d b args w;simp only[ztJ,Qg,Ul] at h;have a:=h (g-lo) (by omega);rw[show lo+(g-lo)=g by omega,b] at a;dsimp only at a
 split at a
 ·rename_i f c;simp only[bAT,bne_iff_ne,ne_eq] at a;simp[callFunc,c,a.1,Option.isSome_iff_ne_none.1 a.2]
 ·cases a
theorem nm{α:Sort _}(a:α):∃x,x=a:=⟨a,rfl⟩
def zxp (E:VEnv):VEnv->List (Option Value)
 | []=>[]
 | (t,_)::r=>VEnv.find E t::zxp E r
def zxo:VEnv->List (Option Value)
 | []=>[]
 | (_,v)::r=>some v::zxo r
theorem zx5{E:VEnv}:∀{E0:VEnv},zxp E E0=zxo E0->CovL E E0
 | [],_ => .nil
 | (t,v)::r,h => .cons (Jv h) (zx5 (List.tail_eq_of_cons_eq h))
theorem cvE{E E0:Env}(h:zxp E.vs E0.vs=zxo E0.vs)(d:E.ds=E0.ds):Cov E E0:=⟨zx5 h,d⟩
theorem biE{b:Bool}{A B:Prop}(h:b=true->A)(k:b=false->B):(b=true->A)/\(b=false->B):=⟨h,k⟩
end Go.Vc
namespace Go.Vc
open Go.RowKit
def qm (E:Env) (x:Operand) (f:Value->Prop):Prop:=match opd E x with | some v=>f v | none=>False
def zhV (E:Env):List Operand->(List Value->Prop)->Prop
 | [],f=>f []
 | x::r,f=>qm E x fun v=>zhV E r fun vs=>f (v::vs)
theorem zq{E:Env}{x:Operand}{f:Value->Prop}(h:qm E x f):∃v,opd E x=some v/\f v:=by
 unfold qm at h
 split at h
 ·exact⟨_,by assumption,h⟩
 ·exact h.elim
theorem zbA{S:Sig}{E:Env}:∀{l:List Operand} {f:List Value->Prop},zhV E l f->∃vs,f vs/\∀a,Agrees S a E->l.map a.eval=vs
 | [],f,h=>⟨[],h,fun _ _=>rfl⟩
 | x::r,f,h=>by
  obtain⟨v,d,h⟩:=zq h;obtain⟨vs,e,c⟩:=zbA (S:=S) h;exact⟨v::vs,e,fun a b=>by simp only[Uz,b.eval d,c a b]⟩
def zqh (P:Program) (m:Sem Value) (K:Value->Prop):Prop:=∃v,(∀w,m.run P w = .ok v w)/\K v
def zkA (P:Program) (w:Wd) (m:Sem Value) (K:Value->Prop):Prop:=∃v,(∀w2,Bw w w2->m.run P w2 = .ok v w2)/\K v
def kEq (k k':IntKind):Bool:=decide (k=k')
def zvb (op:BinOp) (k:IntKind) (a b:Int) (K:Value->Prop):Prop :=
 match op with
 | .lss=>K (.bool (decide (a<b)))
 | .leq=>K (.bool (decide (a<=b)))
 | .gtr=>K (.bool (decide (b<a)))
 | .geq=>K (.bool (decide (b<=a)))
 | .eql=>K (.bool (decide (a=b)))
 | .neq=>K (.bool (!decide (a=b)))
 | .add=>Ar k (a+b) K
 | .sub=>Ar k (a-b) K
 | .mul=>Ar k (a*b) K
 | .quo=>b≠0/\Ar k (a.tdiv b) K
 | .rem=>b≠0/\∃r,a.tmod b=r/\K (.int k r)
 | .and=>∃r,k.wrap ((BitVec.ofInt k.bits a&&&BitVec.ofInt k.bits b).toNat)=r/\K (.int k r)
 | .or=>∃r,k.wrap ((BitVec.ofInt k.bits a|||BitVec.ofInt k.bits b).toNat)=r/\K (.int k r)
 | .xor=>∃r,k.wrap ((BitVec.ofInt k.bits a ^^^ BitVec.ofInt k.bits b).toNat)=r/\K (.int k r)
 | .andNot=>∃r,k.wrap ((BitVec.ofInt k.bits a &&& ~~~ BitVec.ofInt k.bits b).toNat)=r/\K (.int k r)
 | _=>False
def zv0 (P:Program) (op:BinOp) (T:TypeId) (x y:Operand) (vx vy:Value) (K:Value->Prop):Prop :=
 match vx,vy with
 | .int k a,.int k' b =>
  match op with
  | .shl=>0<=b/\Ar k (a*2^(min b.toNat k.bits)) K
  | .shr=>0<=b/\∃r,a.fdiv (2^(min b.toNat k.bits))=r/\K (.int k r)
  | op=>match kEq k k' with
   | true=>zvb op k a b K
   | false=>False
 | vx,vy=>zqh P (do eqGuard op T x y vx vy;binOp op T vx vy) K
def zlo (o:Option TI) (f:Nat) (g:Nat->Nat->Bool->Prop):Prop :=
 match o with
 | some { kind := .struct fs,.. }=>(match fs[f]? with
  | some (off,sz,agg)=>g off sz agg
  | none=>False)
 | _=>False
def zfG (off sz:Nat) (agg:Bool) (cs:List Value) (K:Value->Prop):Prop :=
 match agg with
 | true=>K (.agg ((cs.drop off).take sz).toArray)
 | false=>match cs[off]? with
  | some v=>K v
  | none=>False
def idx (vi:Value) (n:Nat) (g:Nat->Prop):Prop :=
 match vi with
 | .int _ i=>∃j:Nat,(j:Int)=i/\j<n/\g j
 | _=>False
def zfc (o:Option TI) (vx vi:Value) (K:Value->Prop):Prop :=
 match o with
 | some { kind := .slice _ esz,.. }=>(match vx with
  | .slice (some ⟨b,o,none⟩) len _=>idx vi len fun j=>K (.pointer (some ⟨b,o+j*esz,none⟩))
  | _=>False)
 | some { kind := .array n _ esz _,.. }=>(match vx with
  | .pointer (some ⟨b,o,none⟩)=>idx vi n fun j=>K (.pointer (some ⟨b,o+j*esz,none⟩))
  | _=>False)
 | _=>False
def bnd (o:Option Value) (dflt top:Nat) (g:Nat->Prop):Prop :=
 match o with
 | none=>g dflt
 | some (.int _ i)=>∃j:Nat,(j:Int)=i/\j<=top/\g j
 | some _=>False
def qJ (base:OA) (m l esz:Nat):OA:=if m=l then base else base.map (·.add (l*esz))
def znQ (o:Option TI) (vx:Value) (lo hi:Option Value) (K:Value->Prop):Prop :=
 match o with
 | some { kind := .slice _ esz,.. }=>(match vx with
  | .slice base len cap=>bnd hi len cap fun h=>bnd lo 0 h fun l=>K (.slice (qJ base cap l esz) (h-l) (cap-l))
  | _=>False)
 | some { kind := .array n _ esz _,.. }=>(match vx with
  | .pointer (some a)=>bnd hi n n fun h=>bnd lo 0 h fun l=>K (.slice (qJ (some a) n l esz) (h-l) (n-l))
  | _=>False)
 | some { kind := .string,.. }=>(match vx with
  | .string s=>bnd hi s.size s.size fun h=>bnd lo 0 h fun l=>K (.string (s.extract l h))
  | _=>False)
 | _=>False
def zlQ (E:Env) (o:Option Operand) (f:Option Value->Prop):Prop :=
 match o with
 | none=>f none
 | some x=>qm E x fun v=>f (some v)
def zin (l:List Value) (off:Nat):List Value->List Value
 | []=>l
 | v::r=>zin (l.set off v) (off+1) r
def zeU (place:Nat->Option (Nat×Nat)) (cells:List Value):List (Nat×Value)->Option (List Value)
 | []=>some cells
 | (i,v)::qM=>match place i with
  | none=>none
  | some (off,sz)=>match Nat.beq v.cells.size sz&&Nat.ble (off+sz) cells.length with
   | true=>zeU place (zin cells off v.cells.toList) qM
   | false=>none
def zju:List (Nat×Operand)->List Value->List (Nat×Value)
 | (i,_)::r,v::vs=>(i,v)::zju r vs
 | _,_=>[]
def zk3 (fs:List (Nat×Nat×Bool)) (i:Nat):Option (Nat×Nat) :=
 match fs[i]? with
 | some (off,sz,_)=>some (off,sz)
 | none=>none
def ztN (o:Option TI) (ps:List (Nat×Operand)) (vs:List Value) (K:Value->Prop):Prop :=
 match o with
 | some { kind := .struct fs,zero:=some z,.. }=>∃cells,zeU (zk3 fs) z (zju ps vs)=some cells/\K (.agg cells.toArray)
 | some { kind := .array _ _ esz _,zero:=some z,.. }=>∃cells,zeU (fun i=>some (i*esz,esz)) z (zju ps vs)=some cells/\K (.agg cells.toArray)
 | _=>False
def zcO (z:List Value):Nat->List Value
 | 0=>[]
 | n+1=>z++zcO z n
def isN (op:Op):Bool :=
 match op with
 | .move _ | .assign _ | .pick .. | .binOp .. | .unOp .. | .field .. | .index .. | .fieldAddr .. | .indexAddr .. | .slice .. | .extract .. | .makeFunc .. | .nilCheck _ | .build .. => true
 | _=>false
def zsx (S:Sig) (E:Env) (op:Op) (w:Wd) (K:Value->Prop):Prop :=
 match op with
 | .move x=>qm E x K
 | .assign x=>qm E x K
 | .pick c a b=>qm E c fun vc=>qm E a fun va=>qm E b fun vb=>(match vc with
  | .bool t=>K (match t with | true=>va | false=>vb)
  | _=>False)
 | .binOp op T x y _=>qm E x fun vx=>qm E y fun vy=>zv0 S.P op T x y vx vy K
 | .unOp op _ x=>qm E x fun v=>(match op,v with
  | .not,.bool b=>K (.bool (!b))
  | .neg,.int k n=>Ar k (0-n) K
  | op,v=>zqh S.P (Op.unary op v) K)
 | .convert s d x=>qm E x fun v=>(match TT.get S.τ s,TT.get S.τ d,v with
  | some _,some { kind := .int k,.. },.int _ n=>Ar k n K
  | _,_,v=>zkA S.P w (convert s d v) K)
 | .field T x f=>qm E x fun v=>zlo (TT.get S.τ T) f fun off sz agg=>(match v with
  | .agg cs=>zfG off sz agg cs.toList K
  | _=>False)
 | .index T x i=>qm E x fun vx=>qm E i fun vi=>(match TT.get S.τ T,vx with
  | some { kind := .array n _ esz eagg,.. },.agg cs=>idx vi n fun j=>zfG (j*esz) esz eagg cs.toList K
  | some { kind := .string,.. },.string s=>idx vi s.size fun j=>∃u,s.data.toList[j]?=some u/\K (.int .u8 u.toNat)
  | _,_=>False)
 | .fieldAddr T x f=>qm E x fun v=>zlo (TT.get S.τ T) f fun off sz _=>(match Nat.beq sz 0 with
  | true=>False
  | false=>(match v with
   | .pointer (some ⟨b,o,none⟩)=>K (.pointer (some ⟨b,o+off,none⟩))
   | _=>False))
 | .indexAddr T x i=>qm E x fun vx=>qm E i fun vi=>zfc (TT.get S.τ T) vx vi K
 | .slice T x lo hi mx=>qm E x fun vx=>zlQ E lo fun l=>zlQ E hi fun h=>(match mx with
  | none=>znQ (TT.get S.τ T) vx l h K
  | some _=>False)
 | .lookup T x i ok=>qm E x fun vx=>qm E i fun vi=>zkA S.P w (Instr.lookup T vx vi ok) K
 | .build T ps=>zhV E (ps.toList.map (·.2)) fun vs=>ztN (TT.get S.τ T) ps.toList vs K
 | .extract t i=>qm E t fun v=>(match v with
  | .tuple vs=>(match vs.toList[i]? with
   | some u=>K u
   | none=>False)
  | _=>False)
 | .makeFunc fn first captured=>zhV E first.toList fun fs=>zhV E captured.toList fun cs=>K (.func fn fs.toArray cs.toArray)
 | .nilCheck x=>qm E x fun v=>(match v with
  | .pointer (some a)=>K (.pointer (some a))
  | .func (.func f) a b=>K (.func (.func f) a b)
  | _=>False)
 | .load T a=>qm E a fun v=>(match v with
  | .pointer (some p)=>(match TT.get S.τ T with
   | some { agg:=true,size:=sz,.. }=>∃vs:List Value,vs.length=sz/\zI w p vs/\(p.block<w.heap.size)/\K (.agg vs.toArray)
   | some { agg:=false,.. }=>∃u,w.cell? p=some u/\K u
   | none=>False)
  | _=>False)
 | .call c=>(match c.callee with
  | .builtin .len=>(match c.args.toList,c.argTypes.toList with
   | [x],[T]=>qm E x fun v=>(match TT.get S.τ T,v with
    | some { kind := .slice _ _,.. },.slice _ n _=>K (.int .i64 n)
    | some { kind := .string,.. },.string s=>K (.int .i64 s.size)
    | some { kind := .array n _ _ _,.. },_=>K (.int .i64 n)
    | _,_=>False)
   | _,_=>False)
  | _=>False)
 | _=>False
section
variable{P:Program}{w:Wd}
theorem za1(b o:Nat)(j:Nat):(⟨b,o,none⟩:Addr).add j=⟨b,o+j,none⟩:=by
 unfold Addr.add;split <;> simp_all
theorem ztb{op:BinOp}{k:IntKind}{a b:Int}{K:Value->Prop}(T:TypeId)(x y:Operand)(h1:op ≠ .shl)(h2:op ≠ .shr)(h:zvb op k a b K) :
  ∃v,K v/\∀w,(do eqGuard op T x y (.int k a) (.int k b);binOp op T (.int k a) (.int k b):Sem Value).run P w = .ok v w:=by
 have i:∀w,(eqGuard op T x y (.int k a) (.int k b)).run P w = .ok () w:=by
  intro w;unfold eqGuard;cases op <;> simp
 have d:∀v,(∀w,(binOp op T (.int k a) (.int k b)).run P w = .ok v w)->∀w,(do eqGuard op T x y (.int k a) (.int k b);binOp op T (.int k a) (.int k b):Sem Value).run P w = .ok v w:=by
  intro v g w;rw[US,i w,KZ,g w]
 cases op <;> simp only[zvb] at h
 case lss=>exact⟨_,h,d _ fun w=>by simp[binOp,Op.intCmp]⟩
 case leq=>exact⟨_,h,d _ fun w=>by simp[binOp,Op.intCmp]⟩
 case gtr=>exact⟨_,h,d _ fun w=>by simp[binOp,Op.intCmp]⟩
 case geq=>exact⟨_,h,d _ fun w=>by simp[binOp,Op.intCmp]⟩
 case eql=>exact⟨_,h,d _ fun w=>by simp[binOp,Op.intCmp];rfl⟩
 case neq=>exact⟨_,h,d _ fun w=>by simp[binOp,Op.intCmp];rfl⟩
 case add=>obtain⟨r,e,c⟩:=h;exact⟨_,c,d _ fun w=>by simp[binOp,Op.intArith,e]⟩
 case sub=>obtain⟨r,e,c⟩:=h;exact⟨_,c,d _ fun w=>by simp[binOp,Op.intArith,e]⟩
 case mul=>obtain⟨r,e,c⟩:=h;exact⟨_,c,d _ fun w=>by simp[binOp,Op.intArith,e]⟩
 case quo=>obtain⟨f,r,e,c⟩:=h;exact⟨_,c,d _ fun w=>by simp[binOp,Op.intDiv,e,f]⟩
 case rem=>obtain⟨f,r,e,c⟩:=h;exact⟨_,c,d _ fun w=>by simp[binOp,Op.intDiv,e,f]⟩
 case and=>obtain⟨r,e,c⟩:=h;exact⟨_,c,d _ fun w=>by simp only[binOp,ne_eq,Qa,Gj,Op.intBits,UT,e]⟩
 case or=>obtain⟨r,e,c⟩:=h;exact⟨_,c,d _ fun w=>by simp only[binOp,ne_eq,Qa,Gj,Op.intBits,UT,e]⟩
 case xor=>obtain⟨r,e,c⟩:=h;exact⟨_,c,d _ fun w=>by simp only[binOp,ne_eq,Qa,Gj,Op.intBits,UT,e]⟩
 case andNot=>obtain⟨r,e,c⟩:=h;exact⟨_,c,d _ fun w=>by simp only[binOp,ne_eq,Qa,Gj,Op.intBits,UT,e]⟩
theorem ztR{op:BinOp}{T:TypeId}{x y:Operand}{vx vy:Value}{K:Value->Prop}(h:zv0 P op T x y vx vy K) :
  ∃v,K v/\∀w,(do eqGuard op T x y vx vy;binOp op T vx vy:Sem Value).run P w = .ok v w:=by
 unfold zv0 at h
 split at h
 ·rename_i k a i b
  split at h
  ·obtain⟨d,r,e,c⟩:=h;exact⟨_,c,fun w=>by simp[eqGuard,binOp,Op.shift,e,Int.not_lt.2 d]⟩
  ·obtain⟨d,r,e,c⟩:=h;exact⟨_,c,fun w=>by simp[eqGuard,binOp,Op.shift,e,Int.not_lt.2 d]⟩
  ·rename_i g j
   split at h
   ·rename_i c;have:k=i:=(by simpa [kEq] using c);subst this;exact ztb T x y g j h
   ·exact h.elim
 ·obtain⟨v,f,c⟩:=h;exact⟨v,c,f⟩
theorem zjW{off sz:Nat}{agg:Bool}{cs:Array Value}{K:Value->Prop}{t:TypeId}(h:zfG off sz agg cs.toList K)
  (ha:((P.underlying t).map zf7).getD false=agg) (hs:P.cellsOf t=sz) (hn:zhk P t) :
  ∃v,K v/\∀w,(part t cs off).run P w = .ok v w:=by
 obtain⟨⟨i,g⟩,d,e⟩:=hn;have a:∀w,(isAgg t).run P w = .ok agg w:=by
  intro w;rw[e] at ha;simp only[Ub,QB] at ha;simp only[isAgg,US,Uq e,KZ];rw[<- ha]
  cases d <;> rfl
 have c:∀w,(sizeOf t).run P w = .ok sz w:=by
  intro w;rw[<- hs];simp[sizeOf,typeInfo,g,Program.cellsOf]
 unfold zfG at h
 split at h
 ·refine⟨_,h,fun w=>?_⟩;simp only[part,US,a w,KZ,Gl,c w,UT];congr 2;apply Qc.1;simp[JR,List.extract_eq_take_drop]
 ·split at h
  ·rename_i v f;refine⟨_,h,fun w=>?_⟩;have b:cs[off]?=some v:=by simpa using f
   simp only[part,US,a w,KZ,b,Ku,Gj,UT]
  ·exact h.elim
theorem zaV{t:TypeId}{sz:Nat}(hn:zhk P t)(hs:P.cellsOf t=sz):∀w,(sizeOf t).run P w = .ok sz w:=by
 intro w;obtain⟨⟨i,a⟩,_⟩:=hn;rw[<- hs];simp[sizeOf,typeInfo,a,Program.cellsOf]
theorem zqc{o:Option Value}{top dflt:Nat}{code:BoundsCode}{g:Nat->Prop}(h:bnd o dflt top g) :
  ∃j,g j/\j<=(match o with | none=>dflt | some _=>top)/\∀w,(match o with | some v=>Instr.sliceBound v top code | none=>pure dflt:Sem Nat).run P w = .ok j w:=by
 unfold bnd at h
 split at h
 ·exact⟨dflt,h,UW _,fun w=>rfl⟩
 ·rename_i k i;obtain⟨j,rfl,a,b⟩:=h;refine⟨j,b,a,fun w=>?_⟩;have c:(0:Int)<=(j:Int)/\(j:Int)<=(top:Int):=⟨by omega,by omega⟩;simp[Instr.sliceBound,asIntOf,c]
 ·exact h.elim
theorem zbV{isSlice:Bool}{len cap:Nat}{lo hi:Option Value}{g:Nat->Nat->Prop}(h:bnd hi len cap fun h=>bnd lo 0 h fun l=>g h l) :
  ∃l h,g h l/\∀w,(Instr.sliceBounds isSlice len cap lo hi none).run P w = .ok (l,h,cap) w:=by
 obtain⟨a,c,_,e⟩:=zqc (P:=P) (code:=if isSlice then .sliceAcap else .sliceAlen) h;obtain⟨l,d,_,b⟩:=zqc (P:=P) (code := .sliceB) c;refine⟨l,a,d,fun w=>?_⟩;have i:=e w;have f:=b w;unfold Instr.sliceBounds
 cases hi <;> cases lo <;> simp_all
theorem zml(off:Nat):∀(vs:List Value) (j:Nat) (l:List Value),((vs.toArray.zipIdx j).foldl (fun cs (c,j)=>cs.setIfInBounds (off+j) c) l.toArray)=(zin l (off+j) vs).toArray
 | [],j,l=>by rw [<- Ks];simp [zin]
 | v::r,j,l=>by
  have a:=zml off r (j+1) (l.set (off+j) v);simp only[zin];rw[<- UB] at a;rw[<- a,<- Ks,<- Ks];simp
theorem zfS{place:Nat->Option (Nat×Nat)}:∀(parts:List (Nat×Value)) (cells out:List Value),zeU place cells parts=some out->Instr.fill place cells.toArray parts=some out.toArray
 | [],cells,out,h=>by simp only [zeU,KY] at h;subst h;rfl
 | (i,v)::r,cells,out,h=>by
  simp only[zeU] at h
  split at h
  ·cases h
  ·rename_i a g c
   split at h
   ·rename_i b;simp only[bAT,Gc] at b;have d:=JP b.1;have f:=zfS r _ out h;have e:=zml a v.cells.toList 0 cells;simp only[UK] at e;simp only[Instr.fill,c,d,ne_eq,Qa,UU,Us,KW,dE,gt_iff_lt];rw[Gm (by omega),<- f];congr 1
   ·cases h
theorem zhT(z:List Value):∀n,(zcO z n).length=n*z.length
 | 0=>by simp [zcO]
 | n+1=>by simp only [zcO,lap,zhT z n,UV];omega
theorem zlM(z:List Value)(hz:0<z.length):∀(n i:Nat),i<n*z.length->(zcO z n)[i]?=z[i%z.length]?
 | 0,i,h=>by omega
 | n+1,i,h=>by
  simp only[zcO,List.getElem?_append]
  split
  ·rename_i a;rw[Qz a]
  ·rename_i a;rw[UV] at h;rw[zlM z hz n (i-z.length) (by omega)];rw[show i%z.length=(i-z.length)%z.length from Nat.mod_eq_sub_mod (by omega)]
theorem zoV(z:List Value)(hz:0<z.length)(n:Nat):((Array.range (n*z.length)).map (z.toArray[· % z.toArray.size]!))=(zcO z n).toArray:=by
 apply Array.ext
 ·simp[zhT]
 ·intro i e c;have a:i<n*z.length:=by simpa using e
  have b:i%z.length<z.length:=Ge _ hz;have:=zlM z hz n i a;rw[gE b] at this;simp only[Array.getElem_map,Array.getElem_range,KW,List.getElem_toArray];have d:(zcO z n)[i]?=some (zcO z n)[i]:=gE (by simpa using c);rw[d] at this;simp only[KY] at this;rw[this,getElem!_pos _ _ (by simpa using b)];rfl
end
theorem zdK{w w2:Wd}(hb:Bw w w2){p:Addr}{u:Value}(h:w.cell? p=some u):w2.cell? p=some u :=
 (hb.cell (Jy w p h)).trans h
theorem zfP{vi:Value}{n:Nat}{g:Nat->Prop}(h:idx vi n g):∃k j,vi = .int k (j:Nat)/\j<n/\g j:=by
 unfold idx at h
 split at h
 ·rename_i k i;obtain⟨j,rfl,a,b⟩:=h;exact⟨k,j,rfl,a,b⟩
 ·exact h.elim
theorem zg8{P:Program}{w:Wd}{T:Nat}{i:TI}(ht:TIok P T i)(ha:i.agg=true){p:Addr}{vs:List Value}(hl:vs.length=i.size)(hc:zI w p vs) :
  (loadVar T p).run P w = .ok (.agg vs.toArray) w:=by
 obtain⟨⟨j,g,f,_,_⟩,d,h,b,_⟩:=ht;have a:(isAgg T).run P w = .ok true w:=by
  simp only[isAgg,US,Uq h,KZ];rw[<- ha,<- b];cases d <;> rfl
 have e:(sizeOf T).run P w = .ok vs.length w:=by
  rw[hl,<- f];simp[sizeOf,typeInfo,g]
 have c:=run_loadCells_list (P:=P) w p vs hc;simp only[loadVar,US,a,KZ,Gl,e,c,UT]
theorem zg7{P:Program}{w:Wd}{T:Nat}{i:TI}(ht:TIok P T i)(ha:i.agg=false){p:Addr}{u:Value}(hc:w.cell? p=some u) :
  (loadVar T p).run P w = .ok u w:=by
 obtain⟨_,d,c,b,_⟩:=ht;have a:(isAgg T).run P w = .ok false w:=by
  simp only[isAgg,US,Uq c,KZ];rw[<- ha,<- b];cases d <;> rfl
 simp only[loadVar,US,a,KZ,Ku,Gj,run_load,hc]
theorem zw{w w2:Wd}(hb:Bw w w2){p:Addr}{vs:List Value}(h:zI w p vs):zI w2 p vs :=
 fun i v a=>zdK hb (h i v a)
def zxA (S:Sig) (E:Env) (o:Oper) (w:Wd) (v:Value):Prop :=
 ∀a,Agrees S a E->∀w2,(isN o.op=true\/Bw w w2)->(execOp a.eval o).run S.P w2 = .ok (.value v) w2
theorem ziW{S:Sig}(hS:SigOk S){T:Nat}{vx vi:Value}{K:Value->Prop}(h:zfc (TT.get S.τ T) vx vi K) :
  ∃v,K v/\∀w,(Instr.indexAt T vx vi).run S.P w = .ok v w:=by
 unfold zfc at h
 split at h
 ·rename_i e m _ _ _ _ f;obtain⟨_,d,i,_,p⟩:=hS.ty _ _ f;obtain⟨rfl,a,l⟩:=p
  split at h
  ·rename_i b o len r;obtain⟨k,j,rfl,g,c⟩:=zfP h;refine⟨_,c,fun w=>?_⟩;simp[Instr.indexAt,asIntOf,Uq i,zaV l a,g,za1]
  ·exact h.elim
 ·rename_i n e m q _ _ _ _ f;obtain⟨_,d,i,_,p⟩:=hS.ty _ _ f;obtain⟨rfl,a,_,l⟩:=p
  split at h
  ·rename_i b o;obtain⟨k,j,rfl,g,c⟩:=zfP h;refine⟨_,c,fun w=>?_⟩;simp[Instr.indexAt,asIntOf,Uq i,zaV l a,g,za1,Instr.sureAddr]
  ·exact h.elim
 ·exact h.elim
theorem znP{S:Sig}(hS:SigOk S){T:Nat}{vx:Value}{lo hi:Option Value}{K:Value->Prop}(h:znQ (TT.get S.τ T) vx lo hi K) :
  ∃v,K v/\∀w,(Instr.sliceAt T vx lo hi none).run S.P w = .ok v w:=by
 unfold znQ at h
 split at h
 ·rename_i e m _ _ _ _ f;obtain⟨_,d,g,_,i⟩:=hS.ty _ _ f;obtain⟨rfl,j,k⟩:=i
  split at h
  ·rename_i base len q;obtain⟨l,o,c,b⟩:=zbV (P:=S.P) (isSlice:=true) h;refine⟨_,c,fun w=>?_⟩;simp only[Instr.sliceAt,US,Uq g,KZ,Instr.slice,b w,zaV k j w,UT,qJ]
  ·exact h.elim
 ·rename_i n e m p _ _ _ _ f;obtain⟨_,d,g,_,i⟩:=hS.ty _ _ f;obtain⟨rfl,j,_,k⟩:=i
  split at h
  ·rename_i a;obtain⟨l,o,c,b⟩:=zbV (P:=S.P) (isSlice:=false) h;refine⟨_,c,fun w=>?_⟩;simp only[Instr.sliceAt,US,Uq g,KZ,b w,zaV k j w,UT,Instr.sureAddr,qJ]
   split <;> simp_all
  ·exact h.elim
 ·rename_i _ _ _ _ f;obtain⟨_,d,g,_,i⟩:=hS.ty _ _ f;obtain rfl:=i
  split at h
  ·rename_i s;obtain⟨l,o,c,b⟩:=zbV (P:=S.P) (isSlice:=false) h;refine⟨_,c,fun w=>?_⟩;simp only[Instr.sliceAt,US,Uq g,KZ,Instr.slice,b w,UT,Option.isSome_none,Ku,Gj]
  ·exact h.elim
 ·exact h.elim
theorem zhg{S:Sig}(hS:SigOk S){T f:Nat}{g:Nat->Nat->Bool->Prop}(h:zlo (TT.get S.τ T) f g) :
  ∃(F:Array Field) (fd:Field),S.P.underlying T=some (.struct F)/\F[f]?=some fd/\g fd.offset (S.P.cellsOf fd.type) (((S.P.underlying fd.type).map zf7).getD false)/\zhk S.P fd.type:=by
 unfold zlo at h
 split at h
 ·rename_i m _ _ _ _ c;obtain⟨_,d,e,_,j⟩:=hS.ty _ _ c;obtain⟨F,rfl,rfl,i⟩:=j
  split at h
  ·rename_i b l k a;rw[KT] at a
   cases hF:F.toList[f]? with
   | none=>rw [hF] at a;simp at a
   | some fd =>
    rw[hF] at a;simp only[Ub,KY,UD] at a;obtain⟨rfl,rfl,rfl⟩:=a;exact⟨F,fd,e,by simpa using hF,h,i fd (JW hF)⟩
  ·exact h.elim
 ·exact h.elim
theorem zg2{S:Sig}(hS:SigOk S){E:Env}{o:Oper}{w:Wd}{K:Value->Prop}(h:zsx S E o.op w K):∃v,K v/\zxA S E o w v:=by
 obtain⟨a2,op,type,a1,az,ap⟩:=o
 cases op <;> simp only[zsx] at h
 case move x =>
  obtain⟨v,hv,q⟩:=zq h;exact⟨v,q,fun a m w2 _=>by simp[execOp,m.eval hv]⟩
 case assign x =>
  obtain⟨v,hv,q⟩:=zq h;exact⟨v,q,fun a m w2 _=>by simp[execOp,m.eval hv]⟩
 case pick c x y =>
  replace h:=zq h;obtain⟨vc,hc,h⟩:=h;replace h:=zq h;obtain⟨va,hx,h⟩:=h;replace h:=zq h;obtain⟨vb,hy,h⟩:=h
  split at h
  ·rename_i t;refine⟨_,h,fun a m w2 _=>?_⟩;simp only[execOp,m.eval hc,m.eval hx,m.eval hy,asBool,US,UT,KZ]
   cases t <;> rfl
  ·exact h.elim
 case binOp op T x y yt =>
  replace h:=zq h;obtain⟨vx,hx,h⟩:=h;replace h:=zq h;obtain⟨vy,hy,h⟩:=h;obtain⟨v,q,hr⟩:=ztR h;refine⟨v,q,fun a m w2 _=>?_⟩;simp only[execOp,m.eval hx,m.eval hy];rw[US,hr w2];rfl
 case unOp op T x =>
  replace h:=zq h;obtain⟨v,hv,h⟩:=h
  split at h
  ·exact⟨_,h,fun a m w2 _=>by simp[execOp,m.eval hv,Op.unary]⟩
  ·obtain⟨r,e,q⟩:=h;exact⟨_,q,fun a m w2 _=>by simp only[Int.zero_sub] at e;simp[execOp,m.eval hv,Op.unary,Op.intArith,e]⟩
  ·obtain⟨u,hu,q⟩:=h;exact⟨u,q,fun a m w2 _=>by simp only[execOp,m.eval hv];rw[US,hu w2];rfl⟩
 case convert s d x =>
  replace h:=zq h;obtain⟨v,hv,h⟩:=h
  split at h
  ·rename_i hs hd;obtain⟨_,ds,ax,_⟩:=hS.ty _ _ hs;obtain⟨_,dd,aq,_,q⟩:=hS.ty _ _ hd;obtain rfl:=q;obtain⟨r,e,q⟩:=h;refine⟨_,q,fun a m w2 _=>?_⟩;simp only[execOp,m.eval hv,US,convert,Uq ax,Uq aq,KZ,Conv.intToInt,UT,e]
  ·obtain⟨u,hu,q⟩:=h;exact⟨u,q,fun a m w2 hb=>by simp only[execOp,m.eval hv];rw[US,hu w2 (hb.resolve_left (by simp[isN]))];rfl⟩
 case field T x f =>
  replace h:=zq h;obtain⟨v,hv,h⟩:=h;obtain⟨F,fd,hu,hf,h,hn⟩:=zhg hS h
  split at h
  ·rename_i cs;obtain⟨v',q,hr⟩:=zjW h rfl rfl hn;refine⟨v',q,fun a m w2 _=>?_⟩;simp only[execOp,m.eval hv,US,Instr.field,Uq hu,KZ,hf,asAgg,UT,hr w2]
  ·exact h.elim
 case index T x i =>
  replace h:=zq h;obtain⟨vx,hx,h⟩:=h;replace h:=zq h;obtain⟨vi,hi,h⟩:=h
  split at h
  ·rename_i n e ag ac _ _ _ _ cs ht;obtain⟨_,d,hd,_,q⟩:=hS.ty _ _ ht;obtain⟨rfl,he,aw,hn⟩:=q;obtain⟨k,j,rfl,hj,hg⟩:=zfP h;obtain⟨v',q,hr⟩:=zjW hg aw he hn;refine⟨v',q,fun a m w2 _=>?_⟩;have h1:(0:Int)<=(j:Int)/\(j:Int)<(n:Int):=⟨by omega,by omega⟩;simp only[execOp,m.eval hx,m.eval hi,US,Instr.index,asIntOf,UT,Uq hd,KZ,h1,and_self,Gl,zaV hn he,KK,hr w2]
  ·rename_i s ht;obtain⟨_,d,hd,_,q⟩:=hS.ty _ _ ht;obtain rfl:=q;obtain⟨k,j,rfl,hj,u,hu,hg⟩:=zfP h;refine⟨_,hg,fun a m w2 _=>?_⟩;have ak:s[j]?=some u:=by
    have h2:s.data[j]?=some u:=(by simpa using hu);obtain⟨hlt,e⟩:=Jk.1 h2;rw[getElem?_pos s j hj];exact Gi some e
   simp[execOp,m.eval hx,m.eval hi,Instr.index,asIntOf,Uq hd,ak]
  ·exact h.elim
 case fieldAddr T x f =>
  replace h:=zq h;obtain⟨v,hv,h⟩:=h;obtain⟨F,fd,hu,hf,h,hn⟩:=zhg hS h
  split at h
  ·exact h.elim
  ·rename_i hz;have au:S.P.cellsOf fd.type≠0:=fun e=>by rw[e] at hz;simp at hz
   split at h
   ·rename_i b o;refine⟨_,h,fun a m w2 _=>?_⟩;simp only[execOp,m.eval hv,US,Instr.fieldAt,Uq hu,KZ,hf,UT,Instr.sureAddr,fieldPlace,zaV hn rfl w2,au,Gj,za1]
   ·exact h.elim
 case indexAddr T x i =>
  replace h:=zq h;obtain⟨vx,hx,h⟩:=h;replace h:=zq h;obtain⟨vi,hi,h⟩:=h;obtain⟨v,q,hr⟩:=ziW hS h;exact⟨v,q,fun a m w2 _=>by simp only[execOp,m.eval hx,m.eval hi];rw[US,hr w2];rfl⟩
 case slice T x lo hi mx =>
  replace h:=zq h;obtain⟨vx,hx,h⟩:=h;have oe:∀{o:Option Operand} {f:Option Value->Prop},zlQ E o f->∃ov,f ov/\∀a,Agrees S a E->o.map a.eval=ov:=by
   intro o f h
   cases o with
   | none=>exact⟨none,h,fun _ _=>rfl⟩
   | some x=>obtain⟨v,hv,hf⟩:=zq h;exact⟨some v,hf,fun a m=>by simp [m.eval hv]⟩
  obtain⟨l,h,hl⟩:=oe h;obtain⟨hh,h,ay⟩:=oe h
  split at h
  ·obtain⟨v,q,hr⟩:=znP hS h;exact⟨v,q,fun a m w2 _=>by simp only[execOp,m.eval hx,hl a m,ay a m,Ua];rw[US,hr w2];rfl⟩
  ·exact h.elim
 case lookup T x i ok =>
  replace h:=zq h;obtain⟨vx,hx,h⟩:=h;replace h:=zq h;obtain⟨vi,hi,u,hu,q⟩:=h;exact⟨u,q,fun a m w2 hb=>by simp only[execOp,m.eval hx,m.eval hi];rw[US,hu w2 (hb.resolve_left (by simp[isN]))];rfl⟩
 case build T ps =>
  obtain⟨vs,h,ao⟩:=zbA (S:=S) h;have e:∀a,Agrees S a E->(ps.map fun(i,x)=>(i,a.eval x)).toList=zju ps.toList vs:=fun a m=>by
   rw[<- ao a m];simp only[Qd,UF];generalize ps.toList=l
   induction l with
   | nil=>rfl
   | cons p r ih=>obtain⟨i,x⟩:=p;simp only [Uz,Kg,zju,ih]
  unfold ztN at h
  split at h
  ·rename_i fs _ _ _ z ht;obtain⟨⟨ar,hi,_,_,ai⟩,d,hd,_,q⟩:=hS.ty _ _ ht;obtain⟨F,rfl,rfl,aj⟩:=q;obtain⟨zv,ad,ah⟩:=ai z rfl;obtain⟨cells,hf,q⟩:=h;refine⟨_,q,fun a m w2 _=>?_⟩;have al:(zeroValue T).run S.P w2 = .ok zv w2:=by simp[zeroValue,typeInfo,hi,ad]
   have a0:(F.mapM fun f=>do pure (f.offset,<- sizeOf f.type):Sem (Array (Nat×Nat))).run S.P w2 = .ok (F.map fun f=>(f.offset,S.P.cellsOf f.type)) w2:=by
    rw[Array.mapM_eq_mapM_toList,Sem.run_map];have av:∀l:List Field,(∀f∈l,zhk S.P f.type)->(l.mapM fun f=>do pure (f.offset,<- sizeOf f.type):Sem (List (Nat×Nat))).run S.P w2 = .ok (l.map fun f=>(f.offset,S.P.cellsOf f.type)) w2:=by
     intro l
     induction l with
     | nil=>intro _;rfl
     | cons f r ih =>
      intro hl;simp only[Uk,US,zaV (hl f KA) rfl w2,KZ,UT,ih (fun g hg=>hl g (JV _ hg)),Uz]
    rw[av F.toList aj];simp only[KZ];congr 1;rw[<- Qc];simp
   have af:=zfS _ _ _ hf;have ab:(fun i=>(F.map fun f=>(f.offset,S.P.cellsOf f.type))[i]?)=zk3 (F.toList.map fun f=>(f.offset,S.P.cellsOf f.type,((S.P.underlying f.type).map zf7).getD false)):=by
    funext i;simp only[zk3,KT,Array.getElem?_map,Array.getElem?_toList]
    cases F[i]? <;> rfl
   simp only[execOp,US,Instr.build,al,KZ,Uq hd,a0];rw[ab,e a m];have ae:zv.cells=z.toArray:=by rw[<- ah]
   rw[ae,af];rfl
  ·rename_i n e0 ag ac _ _ _ z ht;obtain⟨⟨ar,hi,_,_,ai⟩,d,hd,_,q⟩:=hS.ty _ _ ht;obtain⟨rfl,he,_,aj⟩:=q;obtain⟨zv,ad,ah⟩:=ai z rfl;obtain⟨cells,hf,q⟩:=h;refine⟨_,q,fun a m w2 _=>?_⟩;have al:(zeroValue T).run S.P w2 = .ok zv w2:=by simp[zeroValue,typeInfo,hi,ad]
   have af:=zfS _ _ _ hf;simp only[execOp,US,Instr.build,al,KZ,Uq hd,zaV aj he w2];rw[e a m];have ae:zv.cells=z.toArray:=by rw[<- ah]
   rw[ae,af];rfl
  ·exact h.elim
 case extract t i =>
  replace h:=zq h;obtain⟨v,hv,h⟩:=h
  split at h
  ·rename_i vs
   split at h
   ·rename_i u hu;refine⟨_,h,fun a m w2 _=>?_⟩;have ak:vs[i]?=some u:=(by simpa using hu);simp[execOp,m.eval hv,Instr.extract,ak]
   ·exact h.elim
  ·exact h.elim
 case makeFunc fn first captured =>
  obtain⟨fs,h,hf⟩:=zbA (S:=S) h;obtain⟨cs,h,hc⟩:=zbA (S:=S) h;refine⟨_,h,fun a m w2 _=>?_⟩;have e1:first.map a.eval=fs.toArray:=by rw[<- hf a m,<- Qd]
  have e2:captured.map a.eval=cs.toArray:=by rw[<- hc a m,<- Qd]
  simp[execOp,Instr.makeFunc,e1,e2]
 case nilCheck x =>
  replace h:=zq h;obtain⟨v,hv,h⟩:=h
  split at h
  ·exact⟨_,h,fun a m w2 _=>by simp[execOp,m.eval hv]⟩
  ·exact⟨_,h,fun a m w2 _=>by simp[execOp,m.eval hv]⟩
  ·exact h.elim
 case load T x =>
  replace h:=zq h;obtain⟨v,hv,h⟩:=h
  split at h
  ·split at h
   ·rename_i sz _ _ ht;obtain⟨vs,hl,hc,_,q⟩:=h;refine⟨_,q,fun a m w2 hb=>?_⟩;replace hb:=hb.resolve_left (by simp[isN]);simp only[execOp,m.eval hv,US,Instr.loadAt,Instr.sureAddr,UT,KZ,zg8 (hS.ty _ _ ht) rfl hl (zw hb hc)]
   ·rename_i _ _ _ _ ht;obtain⟨u,hc,q⟩:=h;refine⟨_,q,fun a m w2 hb=>?_⟩;replace hb:=hb.resolve_left (by simp[isN]);simp only[execOp,m.eval hv,US,Instr.loadAt,Instr.sureAddr,UT,KZ,zg7 (hS.ty _ _ ht) rfl (zdK hb hc)]
   ·exact h.elim
  ·exact h.elim
 case call c =>
  obtain⟨an,am,aa⟩:=c
  split at h
  ·rename_i hc;dsimp only at hc;subst hc
   split at h
   ·rename_i x T hx hT;have ex:am = #[x]:=(by rw[<- Qc];simpa using hx);have eT:aa = #[T]:=(by rw[<- Qc];simpa using hT);subst ex eT;replace h:=zq h;obtain⟨v,hv,h⟩:=h
    split at h
    ·rename_i e ag _ _ _ _ a n c ht;obtain⟨_,d,hd,_,q⟩:=hS.ty _ _ ht;obtain⟨rfl,_⟩:=q;exact⟨_,h,fun a m w2 _=>by simp[execOp,resolve,invoke,builtin,Builtin.len_,m.eval hv,Uq hd,goInt]⟩
    ·rename_i _ _ _ _ s ht;obtain⟨_,d,hd,_,q⟩:=hS.ty _ _ ht;obtain rfl:=q;exact⟨_,h,fun a m w2 _=>by simp[execOp,resolve,invoke,builtin,Builtin.len_,m.eval hv,Uq hd,goInt]⟩
    ·rename_i n e ag ac _ _ _ _ ht;obtain⟨_,d,hd,_,q⟩:=hS.ty _ _ ht;obtain⟨rfl,_⟩:=q;refine⟨_,h,fun a m w2 _=>?_⟩;simp[execOp,resolve,invoke,builtin,Builtin.len_,m.eval hv,Uq hd,goInt]
    ·exact h.elim
   ·exact h.elim
  ·exact h.elim
def NN:Nat:=1000
def CallR (P:Program) (g:Nat) (args:Array Value) (w:Wd) (K:Value->Wd->Prop) (KP:List PanicEntry->Wd->Prop):Prop :=
 Calls P g args w fun e w'=>match e with
  | .returned v=>K v w'
  | .panicked ch=>KP ch w'
  | .outgrown=>False
theorem CallR.mk{P:Program}{g:Nat}{args:Array Value}{w:Wd}{K:Value->Wd->Prop}{KP:List PanicEntry->Wd->Prop}{R:Ending->Wd->Prop}
  (h:Calls P g args w R) (k:∀e w',R e w'->∃v,e = .returned v/\K v w'):CallR P g args w K KP :=
 h.mono fun e w' r=>by obtain⟨v,rfl,b⟩:=k e w' r;exact b
def YieldR (P:Program) (l:Nat) (args:Array Value) (w:Wd) (K:Value->Wd->Prop):Prop :=
 YieldAt (FR none) (NN-1) P l args w fun e w'=>match e with
  | .returned v=>K v w'
  | _=>False
def j6 (S:Sig) (g:Nat):Bool:=Nat.ble S.lo g&&Nat.blt g S.hi&&zmv g S.no
def zp8 (S:Sig) (vf:Value) (vs:List Value) (w:Wd) (K:Value->Wd->Prop) (KP:List PanicEntry->Wd->Prop):Prop :=
 match vf with
 | .func (.func g) first captured=>(match j6 S g with
  | true=>CallR S.P g (first.toList++vs++captured.toList).toArray w K KP
  | false=>False)
 | .func (.yield l) first _=>YieldR S.P l (first.toList++vs).toArray w K
 | .func fn first captured=>∃g args,(invoke (.fn fn captured) (first.toList++vs).toArray).run S.P w = .ok (.enter g args) w/\CallR S.P g args w K KP
 | _=>False
def znp (S:Sig) (b:Builtin) (argTypes:Array TypeId) (type:TypeId) (vs:List Value) (w:Wd) (K:Value->Wd->Prop) (KP:List PanicEntry->Wd->Prop):Prop :=
 match b with
 | .append=>SatR ((Builtin.append_ argTypes type vs.toArray).run S.P w) K
 | .copy=>SatR ((Builtin.copy_ argTypes type vs.toArray).run S.P w) K
 | .cap=>SatR ((Builtin.cap_ argTypes type vs.toArray).run S.P w) K
 | .len=>SatR ((Builtin.len_ argTypes type vs.toArray).run S.P w) K
 | .min=>SatR ((Builtin.min_ argTypes type vs.toArray).run S.P w) K
 | .max=>SatR ((Builtin.max_ argTypes type vs.toArray).run S.P w) K
 | .delete=>SatR ((Builtin.delete_ argTypes type vs.toArray).run S.P w) K
 | .clear=>SatR ((Builtin.clear_ argTypes type vs.toArray).run S.P w) K
 | .panic=>∃v w',(Instr.panic (vs.toArray.getD 0 .nilIface)).run S.P w = .halt (.panic v) w'/\KP [{ v,recovered:=false }] w'
 | _=>False
def zvB (S:Sig) (E:Env) (o:Oper) (w:Wd) (K:Value->Wd->Prop) (KP:List PanicEntry->Wd->Prop):Prop :=
 match o.op with
 | .alloc T=>(match TT.get S.τ T with
  | some { zero:=some z,.. }=>K (.pointer (some ⟨w.heap.size,0,none⟩)) (w.alloc (.cells z.toArray T))
  | _=>False)
 | .box T x=>qm E x fun v=>K (.pointer (some ⟨w.heap.size,0,none⟩)) (w.alloc (.cells v.cells T))
 | .buildSlice T n ps=>zhV E (ps.toList.map (·.2)) fun vs=>(match TT.get S.τ T with
  | some { kind := .slice e esz,.. }=>(match TT.get S.τ e with
   | some { zero:=some z,.. }=>(n*esz<=16777216/\0<esz/\z.length=esz)/\∃cells:List Value,
     zeU (fun i=>some (i*esz,esz)) (zcO z n) (zju ps.toList vs)=some cells /\
     K (.slice (some ⟨w.heap.size,0,none⟩) n n) (w.alloc (.cells cells.toArray e))
   | _=>False)
  | _=>False)
 | .store T a x=>qm E a fun va=>qm E x fun vx=>(match va with
  | .pointer (some p)=>SatR ((storeVar T p vx).run S.P w) fun _ w'=>K undef w'
  | _=>False)
 | .makeSlice T l c=>qm E l fun vl=>qm E c fun vc=>SatR ((Instr.makeSlice T vl vc).run S.P w) K
 | .makeMap T r=>zlQ E r fun vr=>SatR ((Instr.makeMap T vr).run S.P w) K
 | .makeInterface T x=>qm E x fun v=>SatR ((Instr.makeInterface T v).run S.P w) K
 | .mapUpdate T m k x=>qm E m fun vm=>qm E k fun vk=>qm E x fun vx=>SatR ((Instr.mapUpdate T vm vk vx).run S.P w) fun _ w'=>K undef w'
 | .insert T m k x=>qm E m fun vm=>qm E k fun vk=>qm E x fun vx=>SatR ((Instr.mapUpdate T vm vk vx).run S.P w) fun _ w'=>K undef w'
 | .mapEntry T m k=>qm E m fun vm=>qm E k fun vk=>SatR ((Instr.mapEntry T vm vk).run S.P w) K
 | .entryStore T m s x=>qm E m fun vm=>qm E s fun vs=>qm E x fun vx=>SatR ((Instr.entryStore T vm vs vx).run S.P w) fun _ w'=>K undef w'
 | .range T x=>qm E x fun v=>SatR ((Instr.range T v).run S.P w) K
 | .next it s=>qm E it fun v=>SatR ((Instr.next v s o.type).run S.P w) K
 | .entry it=>qm E it fun v=>SatR ((Instr.entry v).run S.P w) K
 | .typeAssert x T a ok=>qm E x fun v=>SatR ((Instr.typeAssert v T a ok).run S.P w) K
 | .nilCheck x=>qm E x fun v=>SatR ((execOp (fun _=>v) { o with op := .nilCheck (.tmp 0) }).run S.P w) fun nx w'=>(match nx with
  | .value u=>K u w'
  | _=>False)
 | .panic x=>qm E x fun v=>∃u w',(Instr.panic v).run S.P w = .halt (.panic u) w'/\KP [{ v:=u,recovered:=false }] w'
 | .call c=>zhV E c.args.toList fun vs=>(match c.callee with
  | .value f=>qm E f fun vf=>zp8 S vf vs w K KP
  | .builtin b=>znp S b c.argTypes o.type vs w K KP
  | .invoke r m=>qm E r fun vr=>∃g args,(callMethod vr m vs.toArray).run S.P w = .ok (.enter g args) w/\CallR S.P g args w K KP)
 | _=>False
theorem zdJ{P:Program}{r:Option Nat}{n g:Nat}{args:Array Value}{w:Wd}{R:Ending->Wd->Prop}(h:Calls P g args w R):CallsIn (FR r) n P g args w R:=by
 have b:CallsIn Fence.wide n P g args w R:=callsIn_wide.2 h;exact⟨trivial,fun c _=>b.2 c (room_wide _)⟩
theorem SatR.elim{α:Type}{r:Result α}{K:α->Wd->Prop}(h:SatR r K):∃v w',r = .ok v w'/\K v w':=h
section
variable{S:Sig}{E:Env}{o:Oper}{w:Wd}{K:Value->Wd->Prop}{KP:List PanicEntry->Wd->Prop}{a:Act}{n:Nat}
 {next:Act->Wd->Prop} {Q:Exit->Act->Wd->Prop}
def UponE (S:Sig) (n:Nat) (o:Oper) (a:Act) (w:Wd) (next:Act->Wd->Prop) (Q:Exit->Act->Wd->Prop):Prop :=
 match (execOp a.eval o).run S.P w with
 | .ok (.value v) w'=>next (a.put o.dst v) w'
 | .ok .skip w'=>next (a.put o.dst undef) w'
 | .ok (.enter f args) w'=>CallsIn (FR S.r) (n-1) S.P f args w' fun
   | .returned v,w''=>next (a.put o.dst v) w''
   | .panicked chain,w''=>Q (.panic chain) a w''
   | .outgrown,_=>False
 | .ok (.round l f tmps assign body) w'=>RoundIn (FR S.r) (n-1) S.P l f tmps assign body w' fun
   | .returned v,w''=>next (a.put o.dst v) w''
   | .panicked chain,w''=>Q (.panic chain) a w''
   | .outgrown,_=>False
 | .halt (.panic v) w'=>Q (.panic [{ v,recovered:=false }]) a w'
 | _=>False
theorem UponE.wpIn(hd:∀c,o.op ≠ .defer c)(h:UponE S n o a w next Q):o.wpIn (FR S.r) n S.P a w next Q:=by
 refine⟨fun _ _=>trivial,?_⟩;rw[Oper.semAt_eq _ _ _ hd];unfold UponE at h
 split at h
 case h_1 hr=>rw[hr];exact h
 case h_2 hr=>rw[hr];exact h
 case h_3 hr =>
  rw[hr,Oper.uponIn_enter];exact⟨fun h=>by simp[FR] at h,h.mono fun e d b=>by cases e <;> first | exact b | exact b.elim⟩
 case h_4 hr =>
  rw[hr,Oper.uponIn_round];exact⟨fun h=>by simp[FR] at h,h.mono fun e d b=>by cases e <;> first | exact b | exact b.elim⟩
 case h_5 hr=>rw[hr];exact h
 case h_6=>exact h.elim
theorem qQ{v:Value}{w':Wd}(_hd:∀c,o.op ≠ .defer c)(hr:(execOp a.eval o).run S.P w = .ok (.value v) w')(hk:next (a.put o.dst v) w') :
  UponE S n o a w next Q:=by unfold UponE;rw[hr];exact hk
theorem zds{w':Wd}(_hd:∀c,o.op ≠ .defer c)(hr:(execOp a.eval o).run S.P w = .ok .skip w')(hk:next (a.put o.dst undef) w') :
  UponE S n o a w next Q:=by unfold UponE;rw[hr];exact hk
theorem zhU{v:Value}{w':Wd}(_hd:∀c,o.op ≠ .defer c)(hr:(execOp a.eval o).run S.P w = .halt (.panic v) w')(hk:Q (.panic [{ v,recovered:=false }]) a w') :
  UponE S n o a w next Q:=by unfold UponE;rw[hr];exact hk
theorem zeW{g:Nat}{args:Array Value}{w':Wd}(_hd:∀c,o.op ≠ .defer c)(hr:(execOp a.eval o).run S.P w = .ok (.enter g args) w')(hc:CallR S.P g args w' K KP)
  (hn:∀v w',K v w'->next (a.put o.dst v) w') (hp:∀ch w',KP ch w'->Q (.panic ch) a w') :
  UponE S n o a w next Q:=by
 unfold UponE;rw[hr];refine zdJ (hc.mono fun e d b=>?_)
 cases e with
 | returned v=>exact hn _ _ b
 | panicked ch=>exact hp _ _ b
 | outgrown=>exact b.elim
theorem zcB{P:Program}{r r':Option Nat}{n n' l g:Nat}{tmps:Array Value}{assign body:Code}{w:Wd}{R:Ending->Wd->Prop}(h:RoundIn (FR r) n P l g tmps assign body w R) :
  RoundIn (FR r') n' P l g tmps assign body w R :=
 ⟨trivial,fun c b _=>h.2 c b (fun d e=>by simp[FR] at e)⟩
theorem zfk(hS:SigOk S)(h:zvB S E o w K KP)(ha:Agrees S a E)
  (hn:∀v w',K v w'->next (a.put o.dst v) w') (hp:∀ch w',KP ch w'->Q (.panic ch) a w'):UponE S n o a w next Q:=by
 obtain⟨dst,op,am,av,al,ag⟩:=o;have oe:∀{o:Option Operand} {f:Option Value->Prop},zlQ E o f->∃ov,f ov/\o.map a.eval=ov:=by
  intro o f h
  cases o with
  | none=>exact⟨none,h,rfl⟩
  | some x=>obtain⟨v,hv,hf⟩:=zq h;exact⟨some v,hf,by simp [ha.eval hv]⟩
 cases op <;> simp only[zvB] at h
 case alloc T =>
  split at h
  ·rename_i z ht;obtain⟨⟨aw,hi,_,_,ak⟩,_⟩:=hS.ty _ _ ht;obtain⟨v,hz,hc⟩:=ak z rfl;refine qQ (fun c=>by simp) ?_ (hn _ _ h);have ah:(zeroValue T).run S.P w = .ok v w:=by simp[zeroValue,typeInfo,hi,hz]
   have e:v.cells=z.toArray:=by rw[<- hc]
   simp[execOp,Instr.alloc,ah,newVar,newRow,newObj,Sem.run,e]
  ·exact h.elim
 case box T x =>
  obtain⟨v,hv,j⟩:=zq h;refine qQ (fun c=>by simp) ?_ (hn _ _ j);simp[execOp,Instr.box,ha.eval hv,newVar,newRow,newObj,Sem.run]
 case buildSlice T k ps =>
  obtain⟨vs,j,af⟩:=zbA (S:=S) h;have e:(ps.map fun(i,x)=>(i,a.eval x)).toList=zju ps.toList vs:=by
   rw[<- af a ha];simp only[Qd,UF];generalize ps.toList=l
   induction l with
   | nil=>rfl
   | cons p r ih=>obtain⟨i,x⟩:=p;simp only [Uz,Kg,zju,ih]
  split at j
  ·rename_i e1 a2 _ _ _ _ ht
   split at j
   ·rename_i z a0;obtain⟨_,d,hd,_,q⟩:=hS.ty _ _ ht;obtain⟨rfl,he,az⟩:=q;obtain⟨⟨aw,hi,_,_,ak⟩,_⟩:=hS.ty _ _ a0;obtain⟨v,hz,hc⟩:=ak z rfl;obtain⟨⟨a1,ao,ap⟩,cells,hf,q⟩:=j;have hf:=zfS _ _ _ hf;subst ap;rw[<- zoV z ao k] at hf;refine qQ (fun c=>by simp) ?_ (hn _ _ q);have ah:∀w,(zeroValue e1).run S.P w = .ok v w:=(by intro w;simp[zeroValue,typeInfo,hi,hz]);have ec:v.cells=z.toArray:=(by rw[<- hc]);have ar:¬(k*z.length > 2^24):=(by omega);simp only[execOp,Instr.buildSlice,US,Uq hd,KZ,zaV az he w,ar,Gj];by_cases h0:k*z.length=0
    ·rw[e];simp only[h0,Gl,US,UT,KZ];rw[h0] at hf;have e0:(Array.map (fun x=>(#[]:Array Value)[x%(#[]:Array Value).size]!) (Array.range 0))=(Array.map (fun x=>z.toArray[x%z.toArray.size]!) (Array.range 0)):=(by simp);rw[e0,hf];simp[newRow,newObj,Sem.run]
    ·rw[e];simp only[h0,Gj,US,ah,KZ,UT,ec,hf];simp[newRow,newObj,Sem.run]
   ·exact j.elim
  ·exact j.elim
 case store T x y =>
  obtain⟨va,ay,j⟩:=zq h;obtain⟨vx,ax,j⟩:=zq j
  split at j
  ·obtain⟨_,w',hr,q⟩:=SatR.elim j;refine zds (fun c=>by simp) ?_ (hn _ _ q);simp only[execOp,ha.eval ay,ha.eval ax,Instr.storeAt,Instr.sureAddr,US,UT,KZ,hr]
  ·exact j.elim
 case makeSlice T l c =>
  obtain⟨vl,hl,j⟩:=zq h;obtain⟨vc,hc,j⟩:=zq j;obtain⟨v,w',hr,q⟩:=SatR.elim j;refine qQ (fun c=>by simp) ?_ (hn _ _ q);simp only[execOp,ha.eval hl,ha.eval hc];rw[US,hr];rfl
 case makeMap T r =>
  obtain⟨vr,j,aj⟩:=oe h;obtain⟨v,w',hr,q⟩:=SatR.elim j;refine qQ (fun c=>by simp) ?_ (hn _ _ q);simp only[execOp,aj];rw[US,hr];rfl
 case makeInterface T x =>
  obtain⟨vx,hx,j⟩:=zq h;obtain⟨v,w',hr,q⟩:=SatR.elim j;refine qQ (fun c=>by simp) ?_ (hn _ _ q);simp only[execOp,ha.eval hx];rw[US,hr];rfl
 case mapUpdate T m k x =>
  obtain⟨vm,hm,j⟩:=zq h;obtain⟨vk,q,j⟩:=zq j;obtain⟨vx,hx,j⟩:=zq j;obtain⟨v,w',hr,aa⟩:=SatR.elim j;refine zds (fun c=>by simp) ?_ (hn _ _ aa);simp only[execOp,ha.eval hm,ha.eval q,ha.eval hx];rw[US,hr];rfl
 case insert T m k x =>
  obtain⟨vm,hm,j⟩:=zq h;obtain⟨vk,q,j⟩:=zq j;obtain⟨vx,hx,j⟩:=zq j;obtain⟨v,w',hr,aa⟩:=SatR.elim j;refine zds (fun c=>by simp) ?_ (hn _ _ aa);simp only[execOp,ha.eval hm,ha.eval q,ha.eval hx];rw[US,hr];rfl
 case mapEntry T m k =>
  obtain⟨vm,hm,j⟩:=zq h;obtain⟨vk,q,j⟩:=zq j;obtain⟨v,w',hr,aa⟩:=SatR.elim j;refine qQ (fun c=>by simp) ?_ (hn _ _ aa);simp only[execOp,ha.eval hm,ha.eval q];rw[US,hr];rfl
 case entryStore T m k x =>
  obtain⟨vm,hm,j⟩:=zq h;obtain⟨vk,q,j⟩:=zq j;obtain⟨vx,hx,j⟩:=zq j;obtain⟨v,w',hr,aa⟩:=SatR.elim j;refine zds (fun c=>by simp) ?_ (hn _ _ aa);simp only[execOp,ha.eval hm,ha.eval q,ha.eval hx];rw[US,hr];rfl
 case range T x =>
  obtain⟨vx,hx,j⟩:=zq h;obtain⟨v,w',hr,q⟩:=SatR.elim j;refine qQ (fun c=>by simp) ?_ (hn _ _ q);simp only[execOp,ha.eval hx];rw[US,hr];rfl
 case next it s =>
  obtain⟨vx,hx,j⟩:=zq h;obtain⟨v,w',hr,q⟩:=SatR.elim j;refine qQ (fun c=>by simp) ?_ (hn _ _ q);simp only[execOp,ha.eval hx];rw[US,hr];rfl
 case entry it =>
  obtain⟨vx,hx,j⟩:=zq h;obtain⟨v,w',hr,q⟩:=SatR.elim j;refine qQ (fun c=>by simp) ?_ (hn _ _ q);simp only[execOp,ha.eval hx];rw[US,hr];rfl
 case typeAssert x T y ok =>
  obtain⟨vx,hx,j⟩:=zq h;obtain⟨v,w',hr,q⟩:=SatR.elim j;refine qQ (fun c=>by simp) ?_ (hn _ _ q);simp only[execOp,ha.eval hx];rw[US,hr];rfl
 case nilCheck x =>
  obtain⟨vx,hx,j⟩:=zq h;obtain⟨nx,w',hr,q⟩:=SatR.elim j
  split at q
  ·refine qQ (fun c=>by simp) ?_ (hn _ _ q);simp only[execOp,ha.eval hx];simpa only[execOp] using hr
  ·exact q.elim
 case panic x =>
  obtain⟨vx,hx,u,w',hr,q⟩:=zq h;refine zhU (fun c=>by simp) ?_ (hp _ _ q);simp only[execOp,ha.eval hx];rw[US,hr];rfl
 case call c =>
  obtain⟨au,ae,ab⟩:=c;obtain⟨vs,j,af⟩:=zbA (S:=S) h;have ev:ae.map a.eval=vs.toArray:=by rw[<- af a ha,<- Qd]
  dsimp only at j
  split at j
  ·rename_i f;obtain⟨vf,hf,j⟩:=zq j;unfold zp8 at j
   split at j
   ·rename_i g first t
    split at j
    ·rename_i ad;simp only[j6,bAT,Gc,Gd] at ad;refine zeW (fun c=>by simp) ?_ j hn hp;have e2:first++vs.toArray++t=(first.toList++vs++t.toList).toArray:=by
      rw[<- Qc];simp
     simp only[execOp,resolve,ev,ha.eval hf,Deferred.ofValue,US,UT,KZ,invoke,e2];exact hS.call g ad.1.1 ad.1.2 ad.2 _ _
    ·exact j.elim
   ·rename_i l first t
    obtain⟨fn,aq,ac,an,hy,hR⟩:=j;have e2:first++vs.toArray=(first.toList++vs).toArray:=by
     rw[<- Qc];simp
    have hr:(execOp a.eval ⟨dst,.call ⟨.value f,ae,ab⟩,am,av,al,ag⟩).run S.P w = .ok (.round l fn aq ac an) w:=by
     simp only[execOp,resolve,ev,ha.eval hf,Deferred.ofValue,US,UT,KZ,invoke,e2];exact hy
    unfold UponE;rw[hr];refine zcB (hR.mono fun e a3 he=>?_)
    cases e with
    | returned v=>exact hn _ _ he
    | panicked ch=>exact he.elim
    | outgrown=>exact he.elim
   ·rename_i fn first t _ _
    obtain⟨g,ai,hi,hc⟩:=j;refine zeW (fun c=>by simp) ?_ hc hn hp;have e2:first++vs.toArray=(first.toList++vs).toArray:=by
     rw[<- Qc];simp
    simp only[execOp,resolve,ev,ha.eval hf,Deferred.ofValue,US,UT,KZ,e2];exact hi
   ·exact j.elim
  ·rename_i b;unfold znp at j
   split at j
   case h_9 =>
    obtain⟨u,w',hr,q⟩:=j;refine zhU (fun c=>by simp) ?_ (hp _ _ q);simp only[execOp,resolve,ev,invoke,builtin,US,UT,KZ,hr,Result.andThen_halt]
   case h_10=>exact j.elim
   all_goals
    obtain⟨v,w',hr,q⟩:=SatR.elim j;refine qQ (fun c=>by simp) ?_ (hn _ _ q);simp only[execOp,resolve,ev,invoke,builtin,US,UT,KZ,hr]
  ·rename_i r m;obtain⟨vr,aj,g,ai,hi,hc⟩:=zq j;refine zeW (fun c=>by simp) ?_ hc hn hp;have hx:(#[vr]++vs.toArray).extract 1 (#[vr]++vs.toArray).size=vs.toArray:=by
    rw[<- Qc];simp
   have h0:(#[vr]++vs.toArray)[0]?=some vr:=by simp
   simp only[execOp,resolve,ev,ha.eval aj,US,UT,KZ,invoke,h0,hx];exact hi
end
def ze9 (τ:TT) (op:Op):Bool :=
 match op with
 | .move _ | .assign _ | .pick .. | .binOp .. | .unOp .. | .convert .. | .field .. | .index .. | .fieldAddr .. | .indexAddr .. | .slice .. | .extract .. | .makeFunc .. | .nilCheck _ | .load .. | .lookup .. | .build .. => true
 | .call c=>(match c.callee with
  | .builtin .len=>(match c.argTypes.toList with
   | [T]=>(match TT.get τ T with
    | some { kind := .map _ _,.. }=>false
    | _=>true)
   | _=>true)
  | _=>false)
 | _=>false
def zjB (i:Nat):List Nat->Bool
 | []=>false
 | k::r=>match Nat.beq k i with
  | true=>true
  | false=>zjB i r
def j4 (op:Op):Bool:=match op with | .select .. | .defer .. | .go .. => false | _=>true
def PV (P:Program) (o:Oper) (a:Act) (w:Wd) (v:Value):Prop:=∀w2,(isN o.op=true\/Bw w w2)->(execOp a.eval o).run P w2 = .ok (.value v) w2
def PQ (QP:List PanicEntry->Wd->Prop):Exit->Act->Wd->Prop:=fun ex _ w=>match ex with
 | .panic ch=>QP ch w
 | _=>False
def jL (S:Sig) (X:List Nat) (n:Nat) (QP:List PanicEntry->Wd->Prop) (ops:Array Oper) (i:Nat) (K:Act->Wd->Prop) (a:Act) (w:Wd):Prop :=
 match ops[i]? with
 | none=>K a w
 | some o=>if Region.wanted o (yielded ops a.tmps) then
   (if ze9 S.τ o.op then ∃v,PV S.P o a w v/\K (a.put o.dst v) w else UponE S n o a w (fun a' w'=>(zjB i X=false->Bw w w')/\K a' w') (PQ QP))
  else K (a.put o.dst undef) w
def ziM (S:Sig) (X:List Nat) (n:Nat) (QP:List PanicEntry->Wd->Prop) (ops:Array Oper) (K:Act->Wd->Prop):List Nat->Act->Wd->Prop
 | [],a,w=>K a w
 | i::r,a,w=>jL S X n QP ops i (ziM S X n QP ops K r) a w
section
variable{S:Sig}{X:List Nat}{n:Nat}{QP:List PanicEntry->Wd->Prop}{ops:Array Oper}
theorem zeX{o:Oper}{a a':Act}{w:Wd}{next next':Act->Wd->Prop}(he:execOp a'.eval o=execOp a.eval o)
  (hn:∀u w',next (a'.put o.dst u) w'->next' (a.put o.dst u) w') (h:UponE S n o a' w next (PQ QP)):UponE S n o a w next' (PQ QP):=by
 unfold UponE at *;rw[he] at h
 split at h
 ·exact hn _ _ h
 ·exact hn _ _ h
 ·exact CallsIn.mono h fun e b he=>by cases e <;> first | exact hn _ _ he | exact he
 ·exact RoundIn.mono h fun e b he=>by cases e <;> first | exact hn _ _ he | exact he
 ·exact h
 ·exact h
theorem zeZ{i:Nat}{K K':Act->Wd->Prop}{a:Act}{w:Wd}(h:∀a w,K a w->K' a w)(hh:jL S X n QP ops i K a w):jL S X n QP ops i K' a w:=by
 unfold jL at *
 split
 ·rename_i c;simp only[c] at hh;exact h _ _ hh
 ·rename_i o c;simp only[c] at hh
  split
  ·rename_i b;simp only[b,Gl] at hh
   split
   ·rename_i d;simp only[d,Gl] at hh;obtain⟨v,g,f⟩:=hh;exact⟨v,g,h _ _ f⟩
   ·rename_i d;simp only[d,Ku,Gj] at hh;exact zeX rfl (fun u j e=>⟨e.1,h _ _ e.2⟩) hh
  ·rename_i b;simp only[b] at hh;exact h _ _ hh
structure Indep (S:Sig) (X:List Nat) (ops:Array Oper) (k i:Nat):Prop where
 h:∀ok oi,ops[k]?=some ok->ops[i]?=some oi->ok.apart ops oi=true/\ze9 S.τ ok.op=true/\j4 ok.op=true/\j4 oi.op=true/\(ze9 S.τ oi.op=true\/zjB i X=false\/isN ok.op=true)
theorem zgB{op:Op}(h:j4 op=true):∀cs b,op ≠ .select cs b:=fun cs b e=>by subst e;simp[j4] at h
theorem zbh{op:Op}(h:j4 op=true):∀c,op ≠ .defer c:=fun c e=>by subst e;simp[j4] at h
theorem PV.below{P:Program}{o:Oper}{a:Act}{w w':Wd}{v:Value}(h:PV P o a w v)(hb:isN o.op=true\/Bw w w'):PV P o a w' v :=
 fun c b=>h c (Or.elim hb (fun hb => .inl hb) fun hb=>b.imp id (fun b=>(zst hb b)))
theorem zeY{k i:Nat}(hk:Indep S X ops k i){K:Act->Wd->Prop}{a:Act}{w:Wd}(h:jL S X n QP ops k (jL S X n QP ops i K) a w):jL S X n QP ops i (jL S X n QP ops k K) a w:=by
 cases hok:ops[k]? with
 | none =>
  have e:∀K',jL S X n QP ops k K'=K':=fun K'=>by funext a w;simp[jL,hok]
  rw[e] at h ⊢;exact h
 | some ok =>
  cases hoi:ops[i]? with
  | none =>
   have e:∀K',jL S X n QP ops i K'=K':=fun K'=>by funext a w;simp[jL,hoi]
   rw[e] at h;rw[e];exact h
  | some oi =>
   obtain⟨y,hp,p,m,hx⟩:=hk.h ok oi hok hoi;obtain⟨s,z,h3⟩:=Oper.apart_spec y;have f:∀v,((Region.wanted ok (yielded ops a.tmps)=true/\PV S.P ok a w v)\/(Region.wanted ok (yielded ops a.tmps)=false/\v=undef)) ->
     jL S X n QP ops i K (a.put ok.dst v) w->jL S X n QP ops i (jL S X n QP ops k K) a w:=by
    intro v x h;have b:∀u l,(isN ok.op=true\/Bw w l)->K ((a.put ok.dst v).put oi.dst u) l->jL S X n QP ops k K (a.put oi.dst u) l:=by
     intro u l t g;unfold jL;simp only[hok,hp,Gl];rw[wanted_put ok a oi.dst u h3];rw[Act.put_comm a v u z] at g;rcases x with⟨d,o⟩ | ⟨d,rfl⟩
     ·simp only[d,Gl];refine⟨v,fun q z=>?_,g⟩;rw[execOp_put ok (zgB p) a oi.dst u h3];exact(o.below t) q z
     ·simp only[d];exact g
    unfold jL at h ⊢;simp only[hoi] at h ⊢;rw[wanted_put oi a ok.dst v s] at h
    split
    ·rename_i j;simp only[j,Gl] at h
     split
     ·rename_i c;simp only[c,Gl] at h;obtain⟨u,hu,g⟩:=h;refine⟨u,fun q t=>?_,b u w (.inr (Gb _ _)) g⟩;have:=hu q t
      rwa [execOp_put oi (zgB m) a ok.dst v s] at this
     ·rename_i c;simp only[c,Ku,Gj] at h;exact zeX (execOp_put oi (zgB m) a ok.dst v s) (fun u l r=>⟨r.1,b u l ((hx.resolve_left c).elim (fun hm => .inr (r.1 hm)) .inl) r.2⟩) h
    ·rename_i j;simp only[j] at h;exact b undef w (.inr (Gb _ _)) h
   have h':=h;unfold jL at h;simp only[hok,hp,Gl] at h
   cases d:Region.wanted ok (yielded ops a.tmps) with
   | true =>
    simp only[d,Gl] at h;obtain⟨v,x,g⟩:=h;exact f v (.inl ⟨d,x⟩) g
   | false =>
    simp only[d] at h;exact f undef (.inr ⟨d,rfl⟩) h
theorem zg9{K:Act->Wd->Prop}{i:Nat}:∀(L:List Nat),L.Nodup->i∈L->(∀k,[k,i].Sublist L->Indep S X ops k i)->∀(a:Act) (w:Wd),ziM S X n QP ops K L a w ->
  jL S X n QP ops i (ziM S X n QP ops K (L.filter (· ≠ i))) a w
 | [],_,hi,_,_,_,_=>by simp at hi
 | k::r,hn,hi,hind,a,w,h=>by
  obtain⟨d,g⟩:=QR.1 hn;by_cases b:k=i
  ·subst b;have e:(k::r).filter (· ≠ k)=r:=by
    rw[Qk];simp only[ne_eq,Qa,UU,Ku,Gj];exact List.filter_eq_self.2 fun x p=>by simp;rintro rfl;exact d p
   rw[e];exact h
  ·have c:i∈r:=by
    cases hi with
    | head=>exact Gp rfl b
    | tail _ h=>exact h
   have e:(k::r).filter (· ≠ i)=k::r.filter (· ≠ i):=by
    rw[Qk];simp[b]
   rw[e];have f:Indep S X ops k i:=hind k (List.Sublist.cons_cons k (List.singleton_sublist.2 c));have m:jL S X n QP ops k (jL S X n QP ops i (ziM S X n QP ops K (r.filter (· ≠ i)))) a w :=
    zeZ (fun a w l=>zg9 r g c (fun o j=>hind o (j.cons k)) a w l) h
   exact zeY f m
def zfr (ops:Array Oper):Nat->Nat->Nat->Bool
 | 0,_,_=>false
 | f+1,k,i=>match ops[i]? with
  | some o=>o.after.toList.any fun e=>Region.binds .any e&&(Nat.beq e.on k||(Nat.blt k e.on&&zfr ops f k e.on))
  | none=>false
theorem zdu{L:Array Bool}(hc:∀j o,L.getD j false=true->ops[j]?=some o->∀e∈o.after,Region.binds .any e=true->L.getD e.on false=true) :
  ∀(f k i:Nat) (o:Oper),ops[i]?=some o->(∀e∈o.after,Region.binds .any e=true->L.getD e.on false=true)->zfr ops f k i=true->L.getD k false=true
 | 0,_,_,_,_,_,h=>by simp [zfr] at h
 | f+1,k,i,o,ho,hl,h=>by
  simp only[zfr,ho,Qh,bAT,QD,Array.mem_toList_iff] at h;obtain⟨e,c,d,h⟩:=h;rcases h with h | ⟨_,h⟩
  ·have:=JP h;subst this;exact hl e c d
  ·cases hj:ops[e.on]? with
   | none=>cases f <;> simp [zfr,hj] at h
   | some oj=>exact zdu hc f k e.on oj hj (fun g b a=>hc e.on oj (hl e c d) hj g b a) h
structure OrdOk (S:Sig) (X:List Nat) (ops:Array Oper) (L:List Nat):Prop where
 nodup:L.Nodup
 mem:∀i,i∈L↔i<ops.size
 pair:∀k i,[k,i].Sublist L->(∃f,zfr ops f k i=true)\/Indep S X ops k i
 topo:∀i o e,ops[i]?=some o->e∈o.after->Region.binds .any e=true->[e.on,i].Sublist L
theorem zmw{x y:Nat}(hne:x≠y):∀{L:List Nat},L.Nodup->[x,y].Sublist L->[y,x].Sublist L->False
 | [],_,h,_=>by cases h
 | z::r,hn,h,h'=>by
  obtain⟨a,b⟩:=QR.1 hn
  cases h with
  | cons _ h =>
   cases h' with
   | cons _ h'=>exact zmw hne b h h'
   | cons_cons _ h'=>exact a (h.subset (by simp))
  | cons_cons _ h =>
   cases h' with
   | cons _ h'=>exact a (h'.subset (by simp))
   | cons_cons _ h'=>exact hne rfl
theorem zur{o:Oper}{a:Act}{w:Wd}{next:Act->Wd->Prop}{Q:Exit->Act->Wd->Prop}(hQ:∀ch w,QP ch w->Q (.panic ch) a w)(h:UponE S n o a w next (PQ QP)):UponE S n o a w next Q:=by
 unfold UponE at *
 split at h
 ·exact h
 ·exact h
 ·exact CallsIn.mono h fun e c b=>by cases e <;> first | exact hQ _ _ b | exact b
 ·exact RoundIn.mono h fun e c b=>by cases e <;> first | exact hQ _ _ b | exact b
 ·exact hQ _ _ h
 ·exact h
theorem zcP{Q:Exit->Act->Wd->Prop}{i:Nat}{o:Oper}{K K':Act->Wd->Prop}{a:Act}{w:Wd}(hsel:j4 o.op=true)(ho:ops[i]?=some o)
  (hQ:∀ch w,QP ch w->Q (.panic ch) a w) (hnext:∀u w,K (a.put o.dst u) w->K' (a.put o.dst u) w) (h2:jL S X n QP ops i K a w):wpOpIn (FR S.r) n S.P ops Q i K' a w:=by
 unfold wpOpIn;unfold jL at h2;simp only[ho] at h2 ⊢
 split
 ·rename_i b;simp only[b,Gl] at h2
  split at h2
  ·obtain⟨v,c,e⟩:=h2;exact(qQ (S:=S) (Q:=Q) (zbh hsel) (c w (.inr (Gb _ _))) (hnext _ _ e)).wpIn (zbh hsel)
  ·have f:UponE S n o a w K' (PQ QP):=zeX rfl (fun u g d=>hnext _ _ d.2) h2;exact(zur hQ f).wpIn (zbh hsel)
 ·rename_i b;simp only[b] at h2;exact⟨fun _ _=>trivial,hnext _ _ h2⟩
theorem zhj{Q:Exit->Act->Wd->Prop}{I:Act->Prop}(hI:∀a dst v,I a->I (a.put dst v))(hQ:∀ch a w,I a->QP ch w->Q (.panic ch) a w)(hS:∀o,o∈ops->j4 o.op=true){L0:List Nat}(hO:OrdOk S X ops L0) :
  ∀(m:Nat) (L:List Nat) (listed:Array Bool) (a:Act) (w:Wd),L.length=m->L.Sublist L0->listed.size=ops.size->(∀i,i∈L↔(i<ops.size/\listed.getD i false=false)) ->
   (∀j o,listed.getD j false=true->ops[j]?=some o->∀e∈o.after,Region.binds .any e=true->listed.getD e.on false=true) ->
   I a->ziM S X n QP ops (fun a w=>Q .normal a w) L a w->wpAnyIn (FR S.r) n S.P .any ops Q m listed a w
 | 0,L,listed,a,w,hm,_,hsz,hmem,_,_,h=>by
  have hL:L=[]:=Jf hm;subst hL;refine⟨?_,h⟩;rw[Jd];intro i hi;obtain⟨hl,o,q,_⟩:=mem_ready.1 hi;have hlt:i<ops.size:=(Jk.1 q).1;have:i∈([]:List Nat):=(hmem i).2 ⟨hlt,by
   have ab:i<listed.size:=by omega
   simp[ab] at hl ⊢;exact hl⟩
  simp at this
 | m+1,L,listed,a,w,hm,hsub,hsz,hmem,hcl,p,h=>by
  have ad:L.Nodup:=hO.nodup.sublist hsub;have t:∀i,i<ops.size->(listed.getD i true=false↔listed.getD i false=false):=fun i hi=>by
   have ab:i<listed.size:=by omega
   simp[ab]
  have s:∀i,i∈Region.ready .any ops listed->i∈L:=fun i hi=>by
   obtain⟨hl,o,q,_⟩:=mem_ready.1 hi;have hlt:i<ops.size:=(Jk.1 q).1;exact(hmem i).2 ⟨hlt,(t i hlt).1 hl⟩
  refine⟨fun h0=>?_,fun i hi=>?_⟩
  ·
   exfalso
   cases L with
   | nil=>simp at hm
   | cons i r =>
    have l:=(hmem i).1 KA;have:i∈Region.ready .any ops listed:=by
     refine mem_ready.2 ⟨(t i l.1).2 l.2,ops[i],Jn l.1,fun e he hb=>?_⟩;have ht:=hO.topo i _ e (Jn l.1) he hb
     cases hle:listed.getD e.on false with
     | true=>rfl
     | false =>
      exfalso
      have ai:e.on<ops.size:=(hO.mem e.on).1 (ht.subset (by simp));have ag:e.on∈i::r:=(hmem e.on).2 ⟨ai,hle⟩;have ae:e.on≠i:=fun he=>by
       have:=hO.nodup.sublist ht;simp[he] at this
      have ah:e.on∈r:=by
       cases ag with
       | head=>exact Gp rfl ae
       | tail _ h=>exact h
      have h1:[i,e.on].Sublist L0:=(List.Sublist.cons_cons i (List.singleton_sublist.2 ah)).trans hsub;exact(zmw ae hO.nodup ht h1).elim
    rw[h0] at this;simp at this
  ·have af:=s i hi;obtain⟨hl,o,q,y⟩:=mem_ready.1 hi;have hlt:i<ops.size:=(Jk.1 q).1;have g:∀k,[k,i].Sublist L->Indep S X ops k i:=fun k hs=>by
    rcases hO.pair k i (hs.trans hsub) with⟨f,hf⟩ | g
    ·exfalso
     have hk:k∈L:=hs.subset (by simp);have h1:=((hmem k).1 hk).2;have h2:=zdu hcl f k i o q y hf;rw[h1] at h2;simp at h2
    ·exact g
   have h2:=zg9 L ad af g a w h;have z:∀a w,I a->ziM S X n QP ops (fun a w=>Q .normal a w) (L.filter (· ≠ i)) a w->wpAnyIn (FR S.r) n S.P .any ops Q m (listed.setIfInBounds i true) a w:=fun a w p hh=>by
    refine zhj hI hQ hS hO m _ _ a w ?_ (List.filter_sublist.trans hsub) (by simpa using hsz) ?_ ?_ p hh
    ·have:(L.filter (· ≠ i))=L.erase i:=by rw[ad.erase_eq_filter];exact KQ fun x _=>by by_cases h:x=i <;> simp[h]
     rw[this,List.length_erase_of_mem af];omega
    ·intro j;rw[QO,hmem j];by_cases b:j=i
     ·subst b;simp[hsz,hlt]
     ·have ac:¬i=j:=fun e=>b e.symm;simp[b,ac]
    ·intro j oj hj aa e he hb;by_cases b:j=i
     ·subst b;rw[q] at aa;cases aa;have:=y e he hb;by_cases d:e.on=j
      ·simp[d,hsz,hlt]
      ·have c:¬j=e.on:=fun e=>d e.symm;simpa [Jh,c] using this
     ·have ac:¬i=j:=fun e=>b e.symm;have aj:listed.getD j false=true:=(by simpa [Jh,ac] using hj);have:=hcl j oj aj aa e he hb;by_cases d:e.on=i
      ·simp[d,hsz,hlt]
      ·have c:¬i=e.on:=fun e=>d e.symm;simpa [Jh,c] using this
   exact zcP (hS o (JH q)) q (fun ch w=>hQ ch a w p) (fun u w=>z _ w (hI _ _ _ p)) h2
inductive OT where
 | nil
 | op (i:Nat) (t:OT)
 | alt (a b:OT)
def zdL (S:Sig) (X:List Nat) (n:Nat) (QP:List PanicEntry->Wd->Prop) (ops:Array Oper) (K:Act->Wd->Prop):OT->Act->Wd->Prop
 | .nil,a,w=>K a w
 | .op i t,a,w=>jL S X n QP ops i (zdL S X n QP ops K t) a w
 | .alt x y,a,w=>zdL S X n QP ops K x a w/\zdL S X n QP ops K y a w
def OT.first (ind:Nat->Nat->Bool) (i:Nat):OT->Option OT
 | .nil=>none
 | .op k t=>if k=i then some t else if ind k i=true then (OT.first ind i t).map (.op k) else none
 | .alt x y=>match OT.first ind i x with
  | some x'=>some x'
  | none=>OT.first ind i y
theorem zcz{K:Act->Wd->Prop}{i:Nat}{ind:Nat->Nat->Bool}(hind:∀k,ind k i=true->Indep S X ops k i):∀(T T':OT),OT.first ind i T=some T'->∀(a:Act) (w:Wd),zdL S X n QP ops K T a w ->
  jL S X n QP ops i (zdL S X n QP ops K T') a w
 | .nil,_,h,_,_,_=>by simp [OT.first] at h
 | .op k t,T',h,a,w,b=>by
  simp only[OT.first] at h
  split at h
  ·rename_i e;subst e
   cases h
   exact b
  ·split at h
   ·rename_i f;obtain⟨d,c,rfl⟩:=Option.map_eq_some_iff.1 h;exact zeY (hind k f) (zeZ (fun a w b=>zcz hind t d c a w b) b)
   ·cases h
 | .alt x y,T',h,a,w,b=>by
  simp only[OT.first] at h
  split at h
  ·rename_i u g;simp only[KY] at h;subst h;exact zcz hind x u g a w b.1
  ·exact zcz hind y T' h a w b.2
def zoz (ind:Nat->Nat->Bool) (ops:Array Oper):Nat->Array Bool->OT->Bool
 | 0,listed,T=>(Region.ready .any ops listed).isEmpty&&(match T with | .nil=>true | _=>false)
 | m+1,listed,T => !(Region.ready .any ops listed).isEmpty&&(Region.ready .any ops listed).all fun i =>
   match OT.first ind i T with
   | some T'=>zoz ind ops m (listed.setIfInBounds i true) T'
   | none=>false
theorem zhi{Q:Exit->Act->Wd->Prop}{I:Act->Prop}(hI:∀a dst v,I a->I (a.put dst v))(hQ:∀ch a w,I a->QP ch w->Q (.panic ch) a w)(hS:∀o,o∈ops->j4 o.op=true){ind:Nat->Nat->Bool}(hind:∀k i,ind k i=true->Indep S X ops k i) :
  ∀(m:Nat) (listed:Array Bool) (T:OT) (a:Act) (w:Wd),zoz ind ops m listed T=true ->
   I a->zdL S X n QP ops (fun a w=>Q .normal a w) T a w->wpAnyIn (FR S.r) n S.P .any ops Q m listed a w
 | 0,listed,T,a,w,hc,_,h=>by
  simp only[zoz,bAT,Qo] at hc;obtain⟨s,e⟩:=hc
  split at e
  ·exact⟨s,h⟩
  ·cases e
 | m+1,listed,T,a,w,hc,b,h=>by
  simp only[zoz,bAT,KI,Js,Qg] at hc;refine⟨fun p=>Gp p hc.1,fun i g=>?_⟩;obtain⟨_,o,j,_⟩:=mem_ready.1 g;have d:=hc.2 i g
  split at d
  ·rename_i T' f;have e:=zcz (fun k q=>hind k i q) T T' f a w h;have c:∀a w,I a->zdL S X n QP ops (fun a w=>Q .normal a w) T' a w->wpAnyIn (FR S.r) n S.P .any ops Q m (listed.setIfInBounds i true) a w:=fun a w b l =>
    zhi hI hQ hS hind m _ T' a w d b l
   exact zcP (hS o (JH j)) j (fun ch w=>hQ ch a w b) (fun u w=>c _ w (hI _ _ _ b)) e
  ·cases d
end
def OT.firsts (ind:Nat->Nat->Bool) (i:Nat):OT->List OT
 | .nil=>[]
 | .op k t=>if k=i then [t] else if ind k i=true then (OT.firsts ind i t).map (.op k) else []
 | .alt x y=>OT.firsts ind i x++OT.firsts ind i y
def znc (ind:Nat->Nat->Bool) (ops:Array Oper):Nat->Array Bool->OT->Bool
 | 0,listed,T=>(Region.ready .any ops listed).isEmpty&&(match T with | .nil=>true | _=>false)
 | m+1,listed,T => !(Region.ready .any ops listed).isEmpty&&(Region.ready .any ops listed).all fun i =>
   (OT.firsts ind i T).any fun T'=>znc ind ops m (listed.setIfInBounds i true) T'
section
variable{S:Sig}{X:List Nat}{n:Nat}{QP:List PanicEntry->Wd->Prop}{ops:Array Oper}
theorem zb6{K:Act->Wd->Prop}{i:Nat}{ind:Nat->Nat->Bool}(hind:∀k,ind k i=true->Indep S X ops k i):∀(T T':OT),T'∈OT.firsts ind i T->∀(a:Act) (w:Wd),zdL S X n QP ops K T a w ->
  jL S X n QP ops i (zdL S X n QP ops K T') a w
 | .nil,_,h,_,_,_=>by simp [OT.firsts] at h
 | .op k t,T',h,a,w,b=>by
  simp only[OT.firsts] at h
  split at h
  ·rename_i e;subst e;rw[KB] at h;subst h;exact b
  ·split at h
   ·rename_i d;obtain⟨f,c,rfl⟩:=UI.1 h;exact zeY (hind k d) (zeZ (fun a w b=>zb6 hind t f c a w b) b)
   ·cases h
 | .alt x y,T',h,a,w,b=>by
  simp only[OT.firsts,QN] at h;rcases h with h | h
  ·exact zb6 hind x T' h a w b.1
  ·exact zb6 hind y T' h a w b.2
theorem zf6{Q:Exit->Act->Wd->Prop}{I:Act->Prop}(hI:∀a dst v,I a->I (a.put dst v))(hQ:∀ch a w,I a->QP ch w->Q (.panic ch) a w)(hS:∀o,o∈ops->j4 o.op=true){ind:Nat->Nat->Bool}(hind:∀k i,ind k i=true->Indep S X ops k i) :
  ∀(m:Nat) (listed:Array Bool) (T:OT) (a:Act) (w:Wd),znc ind ops m listed T=true ->
   I a->zdL S X n QP ops (fun a w=>Q .normal a w) T a w->wpAnyIn (FR S.r) n S.P .any ops Q m listed a w
 | 0,listed,T,a,w,hc,_,h=>by
  simp only[znc,bAT,Qo] at hc;obtain⟨s,e⟩:=hc
  split at e
  ·exact⟨s,h⟩
  ·cases e
 | m+1,listed,T,a,w,hc,b,h=>by
  simp only[znc,bAT,KI,Js,Qg] at hc;refine⟨fun p=>Gp p hc.1,fun i j=>?_⟩;obtain⟨_,o,g,_⟩:=mem_ready.1 j;have c:=hc.2 i j;rw[Qh] at c;obtain⟨T',f,c⟩:=c;have e:=zb6 (fun k q=>hind k i q) T T' f a w h;have d:∀a w,I a->zdL S X n QP ops (fun a w=>Q .normal a w) T' a w->wpAnyIn (FR S.r) n S.P .any ops Q m (listed.setIfInBounds i true) a w:=fun a w b l =>
   zf6 hI hQ hS hind m _ T' a w c b l
  exact zcP (hS o (JH g)) g (fun ch w=>hQ ch a w b) (fun u w=>d _ w (hI _ _ _ b)) e
end
def zva (all:List Oper) (i:Nat):Bool:=all.any fun o=>match o.guard with | some (j,_)=>Nat.beq j i | none=>false
def zwE (g:Bool) (v:Value) (K:Value->Prop):Prop :=
 match g with
 | true=>(match v with
  | .bool b=>Br b (K (.bool true)) (K (.bool false))
  | v=>K v)
 | false=>K v
def ziF:List Oper->Nat->Option Oper
 | [],_=>none
 | o::_,0=>some o
 | _::r,i+1=>ziF r i
def zw4 (all:List Oper) (E:Env) (j:Nat):Option (Option Bool) :=
 match ziF all j with
 | some o=>(match o.dst with
  | some d=>(match Env.find E d with
   | some (.bool b)=>some (some b)
   | some (.tuple _)=>some none
   | _=>none)
  | none=>none)
 | none=>none
def zvg (all:List Oper) (i:Nat) (op:Op):Bool:=match op with | .move _=>zva all i | _=>false
def zi6 (S:Sig) (all:List Oper) (dr:Bool) (i:Nat) (o:Oper) (E:Env) (w:Wd) (K:Env->Wd->Prop) (KP:Env->List PanicEntry->Wd->Prop):Prop :=
 match ze9 S.τ o.op with
 | true=>zsx S E o.op w fun v=>zwE (zvg all i o.op) v fun v=>K (zhm o.dst v E) w
 | false=>(match dr with
  | false=>zvB S E o w (fun v w'=>K (zhm o.dst v E) w') (KP E)
  | true=>zvB S E o w (fun v w'=>Bw w w'/\K (zhm o.dst v E) w') (KP E))
def zaN (S:Sig) (all:List Oper) (dr:Bool) (i:Nat) (o:Oper) (E:Env) (w:Wd) (K:Env->Wd->Prop) (KP:Env->List PanicEntry->Wd->Prop):Prop :=
 match zpx S.n o.dst with
 | false=>False
 | true=>(match o.guard with
  | none=>zi6 S all dr i o E w K KP
  | some (j,want)=>(match zw4 all E j with
   | some (some b)=>(match b,want with
    | true,true=>zi6 S all dr i o E w K KP
    | false,false=>zi6 S all dr i o E w K KP
    | true,false=>K (zhm o.dst undef E) w
    | false,true=>K (zhm o.dst undef E) w)
   | some none=>K (zhm o.dst undef E) w
   | none=>False))
def zd1 (S:Sig) (all:List Oper):Nat->List Oper->Env->Wd->(Env->Wd->Prop)->(Env->List PanicEntry->Wd->Prop)->Prop
 | _,[],E,w,K,_=>K E w
 | i,o::r,E,w,K,KP=>zaN S all false i o E w (fun E' w'=>zd1 S all (i+1) r E' w' K KP) KP
def zod (S:Sig) (all:List Oper) (X:List Nat) (QP:List PanicEntry->Wd->Prop):List Nat->Env->Wd->(Env->Wd->Prop)->Prop
 | [],E,w,K=>K E w
 | i::r,E,w,K=>(match ziF all i with
  | some o=>zaN S all (!zjB i X) i o E w (fun E' w'=>zod S all X QP r E' w' K) (fun _ ch w=>QP ch w)
  | none=>False)
def ziy (S:Sig) (all:List Oper) (X:List Nat) (QP:List PanicEntry->Wd->Prop):OT->Env->Wd->(Env->Wd->Prop)->Prop
 | .nil,E,w,K=>K E w
 | .op i t,E,w,K=>(match ziF all i with
  | some o=>zaN S all (!zjB i X) i o E w (fun E' w'=>ziy S all X QP t E' w' K) (fun _ ch w=>QP ch w)
  | none=>False)
 | .alt x y,E,w,K=>ziy S all X QP x E w K/\ziy S all X QP y E w K
def zdD (τ:TT) (X:List Nat) (ops:Array Oper) (k i:Nat):Bool :=
 match ops[k]?,ops[i]? with
 | some ok,some oi=>ok.apart ops oi&&ze9 τ ok.op&&j4 ok.op&&j4 oi.op&&(ze9 τ oi.op || !zjB i X||isN ok.op)
 | _,_=>false
def zk5 (τ:TT) (X:List Nat) (ops:Array Oper):List Nat->Bool
 | []=>true
 | k::r=>r.all (fun i=>zfr ops ops.size k i||zdD τ X ops k i) && !r.contains k&&zk5 τ X ops r
def zuT (τ:TT) (X:List Nat) (ops:Array Oper) (L:List Nat):Bool :=
 Nat.beq L.length ops.size&&zk5 τ X ops L&&L.all (fun i=>Nat.blt i ops.size)&&(List.range ops.size).all (fun i=>L.contains i) &&
 (List.range ops.size).all (fun i=>match ops[i]? with
  | some o=>o.after.all fun e => !Region.binds .any e||[e.on,i].isSublist L
  | none=>true)&&ops.all (fun o=>j4 o.op)
theorem zd9{S:Sig}{X:List Nat}{ops:Array Oper}{k i:Nat}(hd:zdD S.τ X ops k i=true):Indep S X ops k i:=by
 refine⟨fun ok d c b=>?_⟩;simp only[zdD,c,b,bAT,QD,KI] at hd;exact⟨hd.1.1.1.1,hd.1.1.1.2,hd.1.1.2,hd.1.2,by rcases hd.2 with(h | h) | h;exact .inl h;exact .inr (.inl h);exact .inr (.inr h)⟩
theorem zg5{S:Sig}{X:List Nat}{ops:Array Oper}:∀{L:List Nat},zk5 S.τ X ops L=true->L.Nodup/\∀k i,[k,i].Sublist L->(∃f,zfr ops f k i=true)\/Indep S X ops k i
 | [],_=>⟨List.nodup_nil,fun _ _ h=>by cases h⟩
 | x::r,h=>by
  simp only[zk5,bAT,Qg,QD,KI,JS,decide_eq_false_iff_not] at h;obtain⟨⟨o,g⟩,m⟩:=h;obtain⟨l,d⟩:=zg5 m;refine⟨QR.2 ⟨g,l⟩,fun k i b=>?_⟩
  cases b with
  | cons _ b=>exact d k i b
  | cons_cons _ b =>
   have e:i∈r:=List.singleton_sublist.1 b;rcases o i e with c | j
   ·exact .inl ⟨_,c⟩
   ·exact .inr (zd9 j)
theorem zqQ{S:Sig}{X:List Nat}{ops:Array Oper}{L:List Nat}(h:zuT S.τ X ops L=true):L.length=ops.size/\OrdOk S X ops L/\∀o,o∈ops->j4 o.op=true:=by
 simp only[zuT,bAT,Qg,Gd,Ul,JS,dE] at h;obtain⟨⟨⟨⟨⟨k,q⟩,l⟩,p⟩,f⟩,c⟩:=h;obtain⟨m,g⟩:=zg5 q;refine⟨JP k,⟨m,fun i=>⟨l i,p i⟩,g,fun i o e b d r=>?_⟩,fun o b=>?_⟩
 ·have j:i<ops.size:=(Jk.1 b).1;have:=f i j;simp only[b,Jc] at this;have:=this e d;simp only[r,Ut,Us] at this;exact List.isSublist_iff_sublist.1 this
 ·simp only[Jc] at c;exact c o b
theorem zfH:∀(l:List Oper) (i:Nat),ziF l i=l[i]?
 | [],i=>by simp [ziF]
 | _::_,0=>rfl
 | _::r,i+1=>by simp only [ziF,Ju];exact zfH r i
section
variable{S:Sig}{n:Nat}{ops:Array Oper}{E:Env}{a:Act}{w:Wd}
theorem zeD(ha:Agrees S a E){j:Nat}{r:Option Bool}(h:zw4 ops.toList E j=some r):yielded ops a.tmps j=r:=by
 unfold zw4 at h;rw[zfH] at h
 split at h
 ·rename_i o g
  split at h
  ·rename_i d f;have c:ops[j]?=some o:=by simpa using g
   split at h
   ·rename_i b e
    cases h
    have:=ha.val d _ e;simp[yielded,c,f,this]
   ·rename_i t e
    cases h
    have:=ha.val d _ e;simp[yielded,c,f,this]
   ·cases h
  ·cases h
 ·cases h
theorem zjP{g:Bool}{v:Value}{K:Value->Prop}(h:zwE g v K):K v:=by
 unfold zwE at h
 split at h
 ·split at h
  ·rename_i b
   cases b
   ·exact h.2 rfl
   ·exact h.1 rfl
  ·exact h
 ·exact h
theorem zqp(hS:SigOk S){i:Nat}{o:Oper}(ho:ops[i]?=some o)(hs:j4 o.op=true){K:Env->Wd->Prop}{KP:Env->List PanicEntry->Wd->Prop}
  {next:Act->Wd->Prop} {Q:Exit->Act->Wd->Prop} (h:zaN S ops.toList false i o E w K KP) (ha:Agrees S a E)
  (hn:∀E' a' w',Agrees S a' E'->K E' w'->next a' w') (hp:∀ch w',KP E ch w'->Q (.panic ch) a w') :
  wpOpIn (FR S.r) n S.P ops Q i next a w:=by
 unfold zaN at h
 split at h
 ·exact h.elim
 ·rename_i k;have q:zi6 S ops.toList false i o E w K KP->o.wpIn (FR S.r) n S.P a w next Q:=fun h=>by
   unfold zi6 at h
   split at h
   ·obtain⟨v,m,s⟩:=zg2 hS h;exact(qQ (S:=S) (n:=n) (zbh hs) (s a ha w (.inr (Gb _ _))) (hn _ _ _ (ha.put k v) (zjP m))).wpIn (zbh hs)
   ·exact(zfk hS h ha (fun v w' m=>hn _ _ _ (ha.put k v) m) hp).wpIn (zbh hs)
  have p:K (zhm o.dst undef E) w->(∀f,o.about S.P w a.eval=some f->(FR S.r).fn f)/\next (a.put o.dst undef) w:=fun h=>⟨fun _ _=>trivial,hn _ _ _ (ha.put k undef) h⟩
  unfold wpOpIn;simp only[ho]
  split at h
  ·rename_i e;have:Region.wanted o (yielded ops a.tmps)=true:=by simp[Region.wanted,e]
   rw[Gn this];exact q h
  ·rename_i j c e
   split at h
   ·rename_i b d;have l:=zeD ha d;have g:Region.wanted o (yielded ops a.tmps)=(b == c):=(by simp[Region.wanted,e,l]);rw[g]
    cases b <;> cases c <;> simp only[] at h <;> first | exact q h | exact p h
   ·rename_i d;have l:=zeD ha d;have g:Region.wanted o (yielded ops a.tmps)=false:=(by simp[Region.wanted,e,l]);rw[g];exact p h
   ·exact h.elim
theorem zg0(hS:SigOk S){X:List Nat}{i:Nat}{o:Oper}(ho:ops[i]?=some o)(_hs:j4 o.op=true){K:Env->Wd->Prop}
  {next:Act->Wd->Prop} {QP:List PanicEntry->Wd->Prop} (h:zaN S ops.toList (!zjB i X) i o E w K (fun _ ch w=>QP ch w)) (ha:Agrees S a E)
  (hn:∀E' a' w',Agrees S a' E'->K E' w'->next a' w') :
  jL S X n QP ops i next a w:=by
 unfold zaN at h
 split at h
 ·exact h.elim
 ·rename_i g;have r:zi6 S ops.toList (!zjB i X) i o E w K (fun _ ch w=>QP ch w)->(if ze9 S.τ o.op=true then ∃v,PV S.P o a w v/\next (a.put o.dst v) w else UponE S n o a w (fun a' w'=>(zjB i X=false->Bw w w')/\next a' w') (PQ QP)):=fun h=>by
   unfold zi6 at h
   split at h
   ·rename_i l;rw[Gn l];obtain⟨v,e,u⟩:=zg2 hS h;exact⟨v,fun t y=>u a ha t y,hn _ _ _ (ha.put g v) (zjP e)⟩
   ·rename_i l;rw[Gm (by simp[l])]
    split at h
    ·rename_i x;have p:zjB i X=true:=(by simpa using x);exact zfk hS h ha (fun v w' e=>⟨fun s=>(by rw[p] at s;cases s),hn _ _ _ (ha.put g v) e⟩) (fun _ _ h=>h)
    ·exact zfk hS h ha (fun v w' e=>⟨fun _=>e.1,hn _ _ _ (ha.put g v) e.2⟩) (fun _ _ h=>h)
  have q:K (zhm o.dst undef E) w->next (a.put o.dst undef) w:=fun h=>hn _ _ _ (ha.put g undef) h
  unfold jL;simp only[ho]
  split at h
  ·rename_i f;have:Region.wanted o (yielded ops a.tmps)=true:=by simp[Region.wanted,f]
   rw[Gn this];exact r h
  ·rename_i j c f
   split at h
   ·rename_i b d;have m:=zeD ha d;have k:Region.wanted o (yielded ops a.tmps)=(b == c):=(by simp[Region.wanted,f,m]);rw[k]
    cases b <;> cases c <;> simp only[] at h <;> first | exact r h | exact q h
   ·rename_i d;have m:=zeD ha d;have k:Region.wanted o (yielded ops a.tmps)=false:=(by simp[Region.wanted,f,m]);rw[k];exact q h
   ·exact h.elim
end
section
variable{S:Sig}{n:Nat}
def zjC (S:Sig) (Q:Exit->Env->Wd->Prop):Exit->Act->Wd->Prop:=fun ex a w=>∃E,Agrees S a E/\Q ex E w
theorem ziA(hS:SigOk S){ops:Array Oper}(hsel:∀o∈ops,j4 o.op=true){Q:Exit->Env->Wd->Prop} :
  ∀(r:List Oper) (i:Nat) (E:Env) (a:Act) (w:Wd),(∀k o,r[k]?=some o->ops[i+k]?=some o)->Agrees S a E ->
   zd1 S ops.toList i r E w (fun E w=>Q .normal E w) (fun E ch w=>Q (.panic ch) E w) ->
   wpOpsIn (FR S.r) n S.P ops (zjC S Q) (List.range' i r.length) a w
 | [],i,E,a,w,_,ha,h=>by simp only [QK,List.range'_zero,wpOpsIn];exact⟨E,ha,h⟩
 | o::r,i,E,a,w,hr,ha,h=>by
  rw[Qp,List.range'_succ,wpOpsIn_cons];have d:ops[i]?=some o:=by simpa using hr 0 o rfl
  exact zqp hS d (hsel o (JH d)) h ha (fun E' f e c b=>ziA hS hsel r (i+1) E' f e (fun k g b=>by have:=hr (k+1) g (by simpa using b);rwa [UB,UJ 1 k]) c b) (fun ch e b=>⟨E,ha,b⟩)
theorem ziz(hS:SigOk S){X:List Nat}{QP:List PanicEntry->Wd->Prop}{ops:Array Oper}(hsel:∀o∈ops,j4 o.op=true){K:Env->Wd->Prop} :
  ∀(L:List Nat) (E:Env) (a:Act) (w:Wd),Agrees S a E->zod S ops.toList X QP L E w K ->
   ziM S X n QP ops (fun a w=>∃E,Agrees S a E/\K E w) L a w
 | [],E,_,_,ha,h=>⟨E,ha,h⟩
 | i::r,E,a,w,ha,h=>by
  simp only[zod,zfH] at h
  split at h
  ·rename_i o e;have b:ops[i]?=some o:=by simpa using e
   exact zg0 hS b (hsel o (JH b)) h ha (fun E' d f c g=>ziz hS hsel r E' d f c g)
  ·exact h.elim
theorem zcn(hS:SigOk S){X:List Nat}{QP:List PanicEntry->Wd->Prop}{ops:Array Oper}(hsel:∀o∈ops,j4 o.op=true){K:Env->Wd->Prop} :
  ∀(T:OT) (E:Env) (a:Act) (w:Wd),Agrees S a E->ziy S ops.toList X QP T E w K ->
   zdL S X n QP ops (fun a w=>∃E,Agrees S a E/\K E w) T a w
 | .nil,E,_,_,ha,h=>⟨E,ha,h⟩
 | .op i t,E,a,w,ha,h=>by
  simp only[ziy,zfH] at h
  split at h
  ·rename_i o e;have b:ops[i]?=some o:=by simpa using e
   exact zg0 hS b (hsel o (JH b)) h ha (fun E' d f c g=>zcn hS hsel t E' d f c g)
  ·exact h.elim
 | .alt x y,E,a,w,ha,h=>⟨zcn hS hsel x E a w ha h.1,zcn hS hsel y E a w ha h.2⟩
def DrawE (S:Sig) (ops:Array Oper) (E:Env) (w:Wd) (K:Env->Wd->Prop) (QP:List PanicEntry->Wd->Prop):Prop :=
 (∃X L:List Nat,zuT S.τ X ops L=true/\zod S ops.toList X QP L E w.drew K) \/
 (∃(X:List Nat) (T:OT),(zoz (zdD S.τ X ops) ops ops.size (Array.replicate ops.size false) T&&ops.all (fun o=>j4 o.op))=true/\ziy S ops.toList X QP T E w.drew K) \/
 (∃(X:List Nat) (T:OT),(znc (zdD S.τ X ops) ops ops.size (Array.replicate ops.size false) T&&ops.all (fun o=>j4 o.op))=true/\ziy S ops.toList X QP T E w.drew K)
theorem DrawE.ord{S:Sig}{ops:Array Oper}{E:Env}{w:Wd}{K:Env->Wd->Prop}{QP:List PanicEntry->Wd->Prop}(X L:List Nat)(h:zuT S.τ X ops L=true)(k:zod S ops.toList X QP L E w.drew K):DrawE S ops E w K QP :=
 .inl ⟨X,L,h,k⟩
def zt0 (ops:List Oper):Bool:=ops.all fun o=>j4 o.op
def zua (body:Env->Wd->(Exit->Env->Wd->Prop)->Prop) (E:Env) (w:Wd) (Q:Exit->Env->Wd->Prop):Prop :=
 ∃(σ:Type) (env:σ->Env) (inv:σ->Wd->Prop) (μ:σ->Nat) (s0:σ),Cov E (env s0)/\inv s0 w /\
  ∀s w,inv s w->body (env s) w fun ex E' w'=>match ex with
   | .normal=>∃s',Cov E' (env s')/\inv s' w'/\μ s'<μ s
   | ex=>Q ex E' w'
def zlK (S:Sig) (f:Operand) (params:Array Tmp) (assign body:Code) (E:Env) (w:Wd) (Q:Exit->Env->Wd->Prop):Prop :=
 ∀a,Agrees S a E->(Code.rangeFunc f params assign body).wpIn (FR S.r) NN S.P (zjC S Q) a w
def wpE (S:Sig):Code->Env->Wd->(Exit->Env->Wd->Prop)->Prop
 | .skip,E,w,Q=>Q .normal E w
 | .region _ ops draw,E,w,Q=>(match draw with
  | false=>(match zt0 ops.toList with
   | true=>zd1 S ops.toList 0 ops.toList E w (fun E w=>Q .normal E w) (fun E ch w=>Q (.panic ch) E w)
   | false=>False)
  | true=>DrawE S ops E w (fun E w=>Q .normal E w) (fun ch w=>Q (.panic ch) ⟨[],E.ds⟩ w))
 | .seq x y,E,w,Q=>wpE S x E w fun ex E' w'=>match ex with
  | .normal=>wpE S y E' w' Q
  | ex=>Q ex E' w'
 | .cond c x y,E,w,Q=>(match opd E c with
  | some (.bool b)=>Br b (wpE S x E w Q) (wpE S y E w Q)
  | _=>False)
 | .block id x,E,w,Q=>wpE S x E w fun ex E' w'=>match ex with
  | .exit id'=>(match Nat.beq id' id with
   | true=>Q .normal E' w'
   | false=>Q (.exit id') E' w')
  | ex=>Q ex E' w'
 | .loop x,E,w,Q=>zua (fun E w Q=>wpE S x E w Q) E w Q
 | .rangeFunc f ps ags x,E,w,Q=>zlK S f ps ags x E w Q
 | .exit id,E,w,Q=>Q (.exit id) E w
 | .scope _,_,_,_=>False
 | .label _,E,w,Q=>Q .normal E w
 | .goto l,E,w,Q=>Q (.goto l) E w
 | .ret,E,w,Q=>Q .ret E w
 | .refuse _,_,_,_=>False
theorem ji(hS:SigOk S):∀(c:Code) (E:Env) (a:Act) (w:Wd) (Q:Exit->Env->Wd->Prop),Agrees S a E->wpE S c E w Q->c.wpIn (FR S.r) NN S.P (zjC S Q) a w
 | .skip,E,a,w,Q,g,h=>wpIn_skip ⟨E,g,h⟩
 | .region id ops draw,E,a,w,Q,g,h=>by
  cases draw with
  | false =>
   simp only[wpE] at h
   split at h
   ·rename_i hs;refine wpIn_region ?_;rw[List.range_eq_range'];have ag:∀o∈ops,j4 o.op=true:=fun o ho=>by
     simp only[zt0,Qg] at hs;exact hs o (Array.mem_toList_iff.2 ho)
    have:=ziA (n:=NN) hS ag ops.toList 0 E a w (fun k o hk=>by simpa using hk) g h;simpa using this
   ·exact h.elim
  | true =>
   simp only[wpE] at h;refine wpIn_region_any hS.mixed ?_;have hI:∀(b:Act) (aa:Option Tmp) (v:Value),(b.tmps.size=S.n/\b.defers=E.ds)->((b.put aa v).tmps.size=S.n/\(b.put aa v).defers=E.ds):=fun b aa v u=>by
    cases aa with
    | none=>exact u
    | some d=>exact⟨by simp [Act.put,u.1],u.2⟩
   have hQ:∀ch (b:Act) w,(b.tmps.size=S.n/\b.defers=E.ds)->Q (.panic ch) ⟨[],E.ds⟩ w->zjC S Q (.panic ch) b w:=fun ch b w u hq=>⟨⟨[],E.ds⟩,⟨u.1,u.2,fun t v hv=>by simp[Env.find,VEnv.find] at hv⟩,hq⟩;have ad:a.tmps.size=S.n/\a.defers=E.ds:=⟨g.size,g.defers⟩;rcases h with⟨X,L,hL,h⟩ | ⟨X,T,hT,h⟩ | ⟨X,T,hT,h⟩
   ·obtain⟨ae,hO,hs⟩:=zqQ hL;have h1:=ziz (n:=NN) hS hs L E a w.drew g h;refine zhj (Q:=zjC S Q) hI hQ hs hO ops.size L (Array.replicate ops.size false) a w.drew ae (List.Sublist.refl _) (by simp) (fun i=>?_) (fun j o hj=>?_) ad h1
    ·rw[hO.mem i];refine⟨fun hi=>⟨hi,by simp[hi]⟩,fun hi=>hi.1⟩
    ·exfalso
     by_cases ah:j<ops.size <;> simp[ah] at hj
   ·simp only[bAT,Jc] at hT;exact zhi (Q:=zjC S Q) hI hQ hT.2 (fun k i h=>zd9 h) ops.size _ T a w.drew hT.1 ad (zcn (n:=NN) hS hT.2 T E a w.drew g h)
   ·simp only[bAT,Jc] at hT;exact zf6 (Q:=zjC S Q) hI hQ hT.2 (fun k i h=>zd9 h) ops.size _ T a w.drew hT.1 ad (zcn (n:=NN) hS hT.2 T E a w.drew g h)
 | .seq x y,E,a,w,Q,g,h=>by
  refine wpIn_seq (Gg (ji hS x E a w _ g h) ?_);rintro ex a' w' ⟨E',q,hq⟩
  cases ex with
  | normal=>exact ji hS y E' a' w' Q q hq
  | _=>exact⟨E',q,hq⟩
 | .cond c x y,E,a,w,Q,g,h=>by
  simp only[wpE] at h
  split at h
  ·rename_i b u;refine wpIn_cond_split (g.eval u) (fun e=>ji hS x E a w Q g (h.1 e)) (fun e=>ji hS y E a w Q g (h.2 e))
  ·exact h.elim
 | .block id x,E,a,w,Q,g,h=>by
  refine wpIn_block (Gg (ji hS x E a w _ g h) ?_);rintro ex a' w' ⟨E',q,hq⟩
  cases ex with
  | exit id' =>
   simp only[Exit.inBlock];dsimp only at hq
   split at hq
   ·rename_i u;rw[Gn (JP u)];exact⟨E',q,hq⟩
   ·rename_i u;rw[Gm (Nat.ne_of_beq_eq_false u)];exact⟨E',q,hq⟩
  | _=>exact⟨E',q,hq⟩
 | .loop x,E,a,w,Q,g,h=>by
  obtain⟨σ,z,inv,μ,s0,hc,hi,u⟩:=h;have ai:∀m s a w,μ s=m->Agrees S a (z s)->inv s w->(Code.loop x).wpIn (FR S.r) NN S.P (zjC S Q) a w:=by
   intro m s a w hm g hi;refine wpIn_loop (fun a w=>∃s,Agrees S a (z s)/\inv s w) (fun a w=>leastOf (fun k=>∃s,Agrees S a (z s)/\inv s w/\μ s=k)) ⟨s,g,hi⟩ ?_;intro a w ⟨s1,af,ak⟩;obtain⟨⟨s2,am,al,aj⟩,_⟩:=leastOf_spec (p:=fun k=>∃s,Agrees S a (z s)/\inv s w/\μ s=k) ⟨_,s1,af,ak,rfl⟩;refine Gg (ji hS x (z s2) a w _ am (u s2 w al)) ?_;rintro ex a' w' ⟨E',q,hq⟩
   cases ex with
   | normal =>
    obtain⟨s',ab,ac,hlt⟩:=hq;refine⟨⟨s',q.cov ab,ac⟩,?_⟩;have:=(leastOf_spec (p:=fun k=>∃s,Agrees S a' (z s)/\inv s w'/\μ s=k) ⟨_,s',q.cov ab,ac,rfl⟩).2;rw[<- aj];exact KF (this _ ⟨s',q.cov ab,ac,rfl⟩) hlt
   | _=>exact⟨E',q,hq⟩
  exact ai _ s0 a w rfl (g.cov hc) hi
 | .rangeFunc f ps ags x,E,a,w,Q,g,h=>h a g
 | .exit id,E,a,w,Q,g,h=>wpIn_exit ⟨E,g,h⟩
 | .scope _,_,_,_,_,_,h=>h.elim
 | .label _,E,a,w,Q,g,h=>wpIn_label ⟨E,g,h⟩
 | .goto l,E,a,w,Q,g,h=>wpIn_goto ⟨E,g,h⟩
 | .ret,E,a,w,Q,g,h=>wpIn_ret ⟨E,g,h⟩
 | .refuse _,_,_,_,_,_,h=>h.elim
def zk0 (E:Env) (w:Wd):(τ:TT)->List ResultVar->(List Value->Prop)->Prop
 | _,[],K=>K []
 | τ,.tmp t::r,K=>qm E (.tmp t) fun v=>zk0 E w τ r fun vs=>K (v::vs)
 | τ,.cell t T::r,K=>qm E (.tmp t) fun va=>(match va with
  | .pointer (some p)=>(match TT.get τ T with
   | some { agg:=true,size:=sz,.. }=>∃us:List Value,us.length=sz/\zI w p us/\zk0 E w τ r fun vs=>K (.agg us.toArray::vs)
   | some { agg:=false,.. }=>∃u,w.cell? p=some u/\zk0 E w τ r fun vs=>K (u::vs)
   | none=>False)
  | _=>False)
def ziE:List Value->Value
 | [v]=>v
 | l => .tuple l.toArray
theorem zfz{S:Sig}(hS:SigOk S){E:Env}{a:Act}{w:Wd}(ha:Agrees S a E):∀(l:List ResultVar) (K:List Value->Prop),zk0 E w S.τ l K ->
  ∃vs,K vs/\(l.mapM fun | .tmp t=>pure (a.tmps.getD t undef) | .cell q t=>do loadVar t (<- asAddr (a.tmps.getD q undef)):Sem (List Value)).run S.P w = .ok vs w
 | [],K,h=>⟨[],h,rfl⟩
 | .tmp t::r,K,h=>by
  obtain⟨v,d,h⟩:=zq h;obtain⟨vs,c,b⟩:=zfz hS ha r _ h;have:a.tmps.getD t undef=v:=ha.eval d;refine⟨_,c,?_⟩;simp only[Uk,US,UT,KZ,this];rw[b];rfl
 | .cell q T::r,K,h=>by
  simp only[zk0] at h;replace h:=zq h;obtain⟨j,d,h⟩:=h;have i:a.tmps.getD q undef=j:=ha.eval d
  split at h
  ·rename_i p
   split at h
   ·rename_i m _ _ f;obtain⟨o,k,g,h⟩:=h;obtain⟨vs,c,b⟩:=zfz hS ha r _ h;refine⟨_,c,?_⟩;have e:asAddr (a.tmps.getD q undef)=pure p:=(by rw[i];rfl);simp only[Uk,US,UT,KZ,e,zg8 (hS.ty _ _ f) rfl k g];rw[b];rfl
   ·rename_i _ _ _ _ f;obtain⟨u,g,h⟩:=h;obtain⟨vs,c,b⟩:=zfz hS ha r _ h;refine⟨_,c,?_⟩;have e:asAddr (a.tmps.getD q undef)=pure p:=(by rw[i];rfl);simp only[Uk,US,UT,KZ,e,zg7 (hS.ty _ _ f) rfl g];rw[b];rfl
   ·exact h.elim
  ·exact h.elim
theorem zmc{S:Sig}(hS:SigOk S){E:Env}{a:Act}{w:Wd}(ha:Agrees S a E){fn:Func}{K:Value->Prop}(h:zk0 E w S.τ fn.results.toList fun vs=>K (ziE vs)) :
  ∃v,K v/\(results fn a.tmps).run S.P w = .ok v w:=by
 obtain⟨vs,b,c⟩:=zfz hS ha _ _ h;refine⟨_,b,?_⟩;unfold results;rw[US,Array.mapM_eq_mapM_toList,Sem.run_map];refine Eq.trans (Gi (fun x=>Result.andThen (Result.andThen x _) _) c) ?_;simp only[KZ,UT];congr 1
 match vs with
 | []=>simp [ziE]
 | [v]=>simp [ziE]
 | v::u::r=>simp [ziE]
def zli:List Deferred->Wd->(Wd->Prop)->Prop
 | [],w,K=>K w
 | d::r,w,K=>∃b,d.target = .collected b/\w.heap[b]?=some (.deferred (some []))/\zli r (w.putObj b (.deferred none)) K
def zpk (S:Sig) (fn:Func) (R:Ending->Wd->Prop):Exit->Env->Wd->Prop
 | .normal,E,w=>zli E.ds w fun w'=>zk0 E w' S.τ fn.results.toList fun vs=>R (.returned (ziE vs)) w'
 | .ret,E,w=>zli E.ds w fun w'=>zk0 E w' S.τ fn.results.toList fun vs=>R (.returned (ziE vs)) w'
 | .panic ch,E,w=>E.ds=[]/\R (.panicked ch) w
 | _,_,_=>False
theorem zbr{S:Sig}(hS:SigOk S){fn:Func}{R:Ending->Wd->Prop}{a:Act}{E:Env}(ha:Agrees S a E):∀(ds:List Deferred) (w:Wd),
  (zli ds w fun w'=>zk0 E w' S.τ fn.results.toList fun vs=>R (.returned (ziE vs)) w')->LeavesInM (FR none) NN S.P fn a.tmps R ds .returning w
 | [],w,h=>by
  obtain⟨v,c,e⟩:=zmc hS ha (K:=fun v=>R (.returned v) w) h;exact⟨v,e,c⟩
 | d::r,w,⟨b,hd,hb,h⟩=>⟨by simp,.inl ⟨b,_,hd,run_takeDeferred hb,zbr hS ha r _ h⟩⟩
def zeV:Nat->List Value->VEnv
 | _,[]=>[]
 | i,v::r=>(i,v)::zeV (i+1) r
theorem zfo:∀(l:List Value) (i t:Nat) (v:Value),VEnv.find (zeV i l) t=some v->i<=t/\l[t-i]?=some v
 | [],_,_,_,h=>by simp [zeV,VEnv.find] at h
 | u::r,i,t,v,h=>by
  simp only[zeV,VEnv.find] at h
  cases hb:Nat.beq i t with
  | true =>
   rw[hb] at h;have e:i=t:=JP hb;subst e;simp only[KY] at h;subst h;simp
  | false =>
   rw[hb] at h;obtain⟨c,b⟩:=zfo r (i+1) t v h;refine⟨by omega,?_⟩;have:t-i=(t-(i+1))+1:=by omega
   rw[this];simpa using b
theorem zoI{S:Sig}(hS:SigOk S){f:FuncId}{fn:Func}{c:Code}{args:List Value}{w:Wd}{R:Ending->Wd->Prop}
  (hf:S.P.funcs[f]?=some fn) (hb:fn.body=some c) (hn:fn.ntmps=S.n) (hle:args.length<=S.n) (hr:S.r=none)
  (h:wpE S c ⟨zeV 0 args,[]⟩ w (zpk S fn R)):Calls S.P f args.toArray w R:=by
 rw[<- callsIn_wide (n:=NN)];have j:FR none=Fence.wide:=rfl;rw[<- j];refine callsIn_of_wp_marks hf hb trivial ?_;have p:Agrees S { tmps:=args.toArray++Array.replicate (fn.ntmps-args.toArray.size) undef,defers:=[] } ⟨zeV 0 args,[]⟩:=by
  refine⟨?_,rfl,fun t v i=>?_⟩
  ·simp[hn];omega
  ·obtain⟨_,e⟩:=zfo _ _ _ _ i;simp only[UO] at e;have hlt:t<args.length:=(Jr.1 e).1;simp only[Array.getElem?_append,KW,hlt,Gl];simpa using e
 have g:=ji hS c _ _ w _ p h;rw[hr] at g;refine Gg g ?_;rintro m k q ⟨E',b,d⟩
 cases m with
 | normal=>have:=zbr hS b _ _ d;rw [<- b.defers] at this;exact this
 | ret=>have:=zbr hS b _ _ d;rw [<- b.defers] at this;exact this
 | panic ch =>
  obtain⟨l,o⟩:=d;show LeavesInM _ _ _ _ _ _ k.defers _ _;rw[b.defers,l];exact o
 | exit _=>exact d.elim
 | goto _=>exact d.elim
 | outgrown=>exact d.elim
end
theorem rb{a b:Bool}(h:a=b):Ending.returned (.bool a)=Ending.returned (.bool b):=by rw[h]
theorem ri{k:IntKind}{a b:Int}(h:a=b):Ending.returned (.int k a)=Ending.returned (.int k b):=by rw[h]
theorem ze{a:Int}(h : -9223372036854775808<=a/\a<=9223372036854775807):IntKind.i64.wrap a=a:=by
 unfold IntKind.wrap;simp only[IntKind.bits,IntKind.signed,Uv,show((2:Int)^64)=18446744073709551616 from rfl,show((2:Int)^(64-1))=9223372036854775808 from rfl]
 split
 ·rename_i h2;have:=dT h2;omega
 ·rename_i h2;have h3:a%18446744073709551616<9223372036854775808:=by simpa using h2
  omega
theorem nxI{k:Nat}{K:Int->Prop}(h:(k:Int)+1<=9223372036854775807)(x:K ((k+1:Nat):Int)):∃m,IntKind.i64.wrap ((k:Int)+1)=m/\K m:=⟨_,(ze (by omega)).trans (by omega),x⟩
theorem zfq{a:Int}(h:0<=a/\a<=255):IntKind.u8.wrap a=a:=by
 unfold IntKind.wrap;simp only[IntKind.bits,IntKind.signed,Ug,Ku,Gj];omega
theorem zxP(x:UInt8):(x.toNat:Int)<=255:=by have:=x.toNat_lt;omega
theorem jh(x:UInt8):IntKind.i64.wrap (x.toNat:Int)=(x.toNat:Int):=ze (by have:=zxP x;omega)
theorem qS{x y:UInt8}:((x.toNat:Int)=(y.toNat:Int))↔x=y :=
 ⟨fun h=>Ud.1 (by omega),fun h=>by rw[h]⟩
def u8 (x:UInt8):Value := .int .u8 x.toNat
theorem zbd{w:Wd}{b o:Nat}{v:Value}{vs:List Value}(h:zI w ⟨b,o,none⟩ (v::vs)):w.cell? ⟨b,o,none⟩=some v:=by
 have:=h 0 v rfl
 rwa [za1] at this
theorem zc{w:Wd}{b o:Nat}{vs:List Value}(h:zI w ⟨b,o,none⟩ vs){i:Nat}{v:Value}(hv:vs[i]?=some v):w.cell? ⟨b,o+i,none⟩=some v:=by
 have:=h i v hv
 rwa [za1] at this
theorem zaD{w:Wd}{b o:Nat}{vs:List Value}(h:∀i v,vs[i]?=some v->w.cell? ⟨b,o+i,none⟩=some v):zI w ⟨b,o,none⟩ vs :=
 fun i v a=>by rw[za1];exact h i v a
theorem zP{w:Wd}{b o n m:Nat}{vs:List Value}(h:zI w ⟨b,o,none⟩ vs):zI w ⟨b,o+n,none⟩ ((vs.drop n).take m):=by
 refine zaD fun i v a=>?_;rw[Ky] at a
 split at a
 ·rw[Kx] at a;have:=zc h a
  rwa [<- UB] at this
 ·cases a
theorem za{w:Wd}{g:Nat}{cs:Array Value}{t:TypeId}{fr:Nat×Nat}(h:w.heap[g]?=some (.cells cs t fr)):zI w ⟨g,0,none⟩ cs.toList:=by
 refine zaD fun i v a=>?_;rw[cell_of_row w g (0+i) cs t fr h,UQ];simpa using a
theorem qX{w:Wd}{g o n:Nat}{cs:Array Value}{t:TypeId}{fr:Nat×Nat}(h:w.heap[g]?=some (.cells cs t fr)):zI w ⟨g,o,none⟩ ((cs.toList.drop o).take n):=by
 have:=zP (n:=o) (m:=n) (za h)
 rwa [UQ] at this
theorem zkw{w:Wd}{cs:Array Value}{t:TypeId}:zI (w.alloc (.cells cs t)) ⟨w.heap.size,0,none⟩ cs.toList :=
 za (heap_alloc_new w _)
theorem zb{w w2:Wd}(hb:Bw w w2){g:Nat}{o:Obj}(h:w.heap[g]?=some o):w2.heap[g]?=some o :=
 (hb.block g (Jk.1 h).1).trans h
structure Enc (α:Type) where
 enc:α->List Value
 sz:Nat
 len:∀a,(enc a).length=sz
 pos:0<sz
 one:∀a,∀u∈enc a,u.oneCell'=true
def SlR {α:Type} (E:Enc α) (w:Wd) (p:OA) (l:List α):Prop :=
 l=[]\/∃b o,p=some ⟨b,o,none⟩/\b<w.heap.size/\∀i (h:i<l.length),zI w ⟨b,o+i*E.sz,none⟩ (E.enc l[i])
section
variable{α:Type}{E:Enc α}{w w2:Wd}{p:OA}{l:List α}
theorem SlR.nil{E:Enc α}{w:Wd}{p:OA}:SlR E w p [] := .inl rfl
theorem SlR.at(h:SlR E w p l){i:Nat}(hi:i<l.length):∃b o,p=some ⟨b,o,none⟩/\b<w.heap.size/\∀i (h:i<l.length),zI w ⟨b,o+i*E.sz,none⟩ (E.enc l[i]):=by
 rcases h with rfl | h
 ·simp at hi
 ·exact h
theorem SlR.below(h:SlR E w p l)(hb:Bw w w2):SlR E w2 p l:=by
 rcases h with rfl | ⟨b,o,d,hlt,c⟩
 ·exact .inl rfl
 ·exact .inr ⟨b,o,d,nL hlt hb.size,fun i a=>zw hb (c i a)⟩
theorem zec(l:List α)(i:Nat)(hi:i<l.length):(((l.flatMap E.enc).drop (i*E.sz)).take E.sz)=E.enc l[i]:=by
 induction l generalizing i with
 | nil=>simp at hi
 | cons a r ih =>
  rw[KR]
  cases i with
  | zero=>simp [<- E.len a]
  | succ i =>
   have e:(i+1)*E.sz=(E.enc a).length+i*E.sz:=by rw[E.len,UV];omega
   rw[e,<- Uh,Ui];simpa using ih i (by simpa using hi)
theorem zZ(l:List α):(l.flatMap E.enc).length=l.length*E.sz:=by
 induction l with
 | nil=>simp
 | cons a r ih=>rw [KR,lap,ih,E.len,Qp,UV];omega
theorem zdf(l:List α):∀u∈l.flatMap E.enc,u.oneCell'=true:=fun u b=>by
 obtain⟨a,_,h⟩:=List.mem_flatMap.1 b;exact E.one a u h
theorem SlR.of_cells{b o:Nat}(hb:b<w.heap.size)(h:zI w ⟨b,o,none⟩ (l.flatMap E.enc)):SlR E w (some ⟨b,o,none⟩) l :=
 .inr ⟨b,o,rfl,hb,fun i a=>by rw[<- zec l i a];exact zP h⟩
theorem SlR.cells{b o:Nat}(h:SlR E w (some ⟨b,o,none⟩) l):zI w ⟨b,o,none⟩ (l.flatMap E.enc):=by
 rcases h with rfl | ⟨n,q,e,hlt,k⟩
 ·intro i v a;simp at a
 ·cases e
  refine zaD fun j v a=>?_;have f:j<l.length*E.sz:=by rw[<- zZ (E:=E) l];exact(Jr.1 a).1
  have d:=E.pos;have c:j/E.sz<l.length:=Kb (by rw[UM];exact f);have g:(E.enc l[j/E.sz])[j%E.sz]?=some v:=by
   rw[<- zec l _ c,Ky,Gn (Ge _ d),Kx,UM,QV];exact a
  have m:=zc (k _ c) g
  rwa [UB,UM,QV] at m
def OwnS (E:Enc α) (T:TypeId) (B:Nat) (w:Wd) (p:OA) (cap:Nat) (l:List α):Prop :=
 w.ownsRow B T E.sz (.slice p l.length cap) l.length (l.flatMap E.enc)
theorem OwnS.nil{E:Enc α}{T B:Nat}{w:Wd}:OwnS E T B w none 0 []:=by
 unfold OwnS;exact World.ownsRow_nil _ _ _ _
theorem OwnS.inv{T B cap:Nat}(h:OwnS E T B w p cap l):(p=none/\cap=0/\l=[]) \/
  ∃g cur,p=some ⟨g,0,none⟩/\B<=g/\w.heap[g]?=some (.cells cur T (0,0))/\l.length<=cap/\cap<=maxLen/\cur.size=cap*E.sz/\cur.toList.take (l.length*E.sz)=l.flatMap E.enc:=by
 obtain⟨m,a⟩:=h;rcases a with⟨a,j⟩ | ⟨g,b,cur,a,k,d,i,c,e,f⟩
 ·simp only[Value.slice.injEq] at a;exact .inl ⟨a.1,a.2.2,Jf j⟩
 ·simp only[Value.slice.injEq,true_and] at a;obtain⟨rfl,rfl⟩:=a;exact .inr ⟨g,cur,rfl,k,d,i,c,e,f⟩
theorem OwnS.row{T B cap:Nat}(h:OwnS E T B w p cap l):SlR E w p l:=by
 rcases h.inv with⟨_,_,rfl⟩ | ⟨g,c,rfl,_,a,_,_,_,b⟩
 ·exact .inl rfl
 ·refine SlR.of_cells (Jk.1 a).1 ?_;rw[<- b];exact qX (o:=0) a
theorem OwnS.kept{T B cap:Nat}(h:OwnS E T B w p cap l){w':Wd}{row:Option Nat}(hg:w.grownBy w' row)(hne:∀g,p=some ⟨g,0,none⟩->row≠some g):OwnS E T B w' p cap l:=by
 refine World.ownsRow.kept h hg ?_;rcases h.inv with⟨rfl,_⟩ | ⟨g,_,rfl,_⟩
 ·exact .inl rfl
 ·exact .inr (fun e=>hne g rfl e.symm)
theorem OwnS.below{T B cap:Nat}(h:OwnS E T B w p cap l)(hb:Bw w w2):OwnS E T B w2 p cap l :=
 h.kept (row:=none) ⟨hb.os,hb.tape,hb.output,hb.size,fun k a _=>hb.block k a⟩ (fun _ _ h=>by cases h)
theorem OwnS.alloc{T B cap:Nat}(h:OwnS E T B w p cap l)(o:Obj):OwnS E T B (w.alloc o) p cap l :=
 h.below ((Gb _ w).alloc (UW _) o)
theorem OwnS.drew{T B cap:Nat}(h:OwnS E T B w p cap l):OwnS E T B w.drew p cap l:=h.below (Gb _ w).drew
theorem jG{P:Program}{t T ty B cap m c:Nat}{a:Addr}{news:List α}{iT:TI}{z:List Value}(hu:P.underlying t=some (.slice T))(hT:TIok P T iT)(hz:iT.zero=some z)
  (hs:iT.size=E.sz) (hzl:z.length=E.sz) (ho:OwnS E T B w p cap l) (hm:news.length=m) (hn:zI w a (news.flatMap E.enc)) (hB:B<=w.heap.size)
  (h1:l.length+m<=9223372036854775807) (h2:(l.length+m)*iT.bytes<=140737488355328) {K:Value->Wd->Prop}
  (k:∀p' cap' w',OwnS E T B w' p' cap' (l++news)->w.grownBy w' (Value.slice p l.length cap).ownBlock->Below B w w' ->
   (∀a,p'=some a->p=some a\/a.block=w.heap.size)->K (.slice p' (l++news).length cap') w') :
  SatR ((Builtin.append_ #[t,t] ty #[.slice p l.length cap,.slice (some a) m c]).run P w) K:=by
 obtain⟨⟨j,hi,i,q,s⟩,_⟩:=hT;obtain⟨zv,f,r⟩:=s z hz;have d:=run_append_own_at (P:=P) w B t ty T j zv E.sz iT.bytes hu hi f (i.trans hs) q (by rw[<- hzl,<- r];simp) E.pos (.slice p l.length cap) l.length (l.flatMap E.enc) ho a m c (news.flatMap E.enc)
  (by rw[zZ,hm]) hn (zdf news) (by unfold maxLen;omega) h2 hB
 obtain⟨v',w',y,b,o,_,n⟩:=d;refine SatR.mk y ?_;have hl:l.length+m=(l++news).length:=by simp[hm]
 have hf:l.flatMap E.enc++news.flatMap E.enc=(l++news).flatMap E.enc:=by rw[Kh]
 rw[hl,hf] at b;have u:Below B w w':=(Gb B w).grown o hB (fun k e=>(World.ownsRow.lt ho k e).1);rcases b.2 with⟨rfl,v⟩ | ⟨g,cap',x,rfl,qM⟩
 ·have:K (.slice none (l++news).length 0) w':=k none 0 w' (by unfold OwnS;rw[v] at b ⊢;exact b) o u (fun _ h=>by cases h);rw[v] at this;exact this
 ·refine k _ _ w' b o u fun a ha=>?_
  cases ha
  rcases n with h1 | h1
  ·rcases ho.inv with⟨rfl,_⟩ | ⟨g',_,rfl,_⟩
   ·simp[Value.ownBlock] at h1
   ·simp[Value.ownBlock] at h1;exact .inl (by rw[h1])
  ·simp[Value.ownBlock] at h1;exact .inr h1
theorem OwnS.same{T B cap:Nat}(h:OwnS E T B w p cap l){w':Wd}(hs:∀a,p=some a->w'.heap[a.block]?=w.heap[a.block]?):OwnS E T B w' p cap l:=by
 obtain⟨f,b⟩:=h;refine⟨f,?_⟩;rcases b with b | ⟨g,c,d,b,i,e,qM⟩
 ·exact .inl b
 ·refine .inr ⟨g,c,d,b,i,?_,qM⟩;simp only[Value.slice.injEq] at b;rw[<- e];exact hs _ b.1
end
theorem zt(w:Wd)(o:Obj):(w.alloc o).heap[w.heap.size]?=some o:=by
 show(w.heap.push o)[w.heap.size]?=some o;simp
theorem qO{w:Wd}{i:Nat}{x:Obj}(o:Obj)(h:w.heap[i]?=some x):(w.alloc o).heap[i]?=some x:=by
 have a:i<w.heap.size:=(Jk.1 h).1;show(w.heap.push o)[i]?=some x;rw[Array.getElem?_push,Gm (Nat.ne_of_lt a)];exact h
theorem jO{w:Wd}{i g:Nat}{x:Obj}(cs:Array Value)(hne:i≠g)(h:w.heap[i]?=some x):(w.setRow g cs).heap[i]?=some x:=by
 rw[setRow_other w g i cs hne];exact h
theorem hdr{w:Wd}{i:Nat}{x:Obj}(h:w.heap[i]?=some x):w.drew.heap[i]?=some x:=h
theorem hlt{w:Wd}{i:Nat}{x:Obj}(h:w.heap[i]?=some x):i<w.heap.size:=(Jk.1 h).1
theorem zp{P:Program}{w:Wd}{T g:Nat}{iT:TI}(hT:TIok P T iT){cs:Array Value}{t:TypeId}(hg:w.heap[g]?=some (.cells cs t (0,0))){v:Value}(hv:v.cells.size=iT.size)
  (hc:cs.size=iT.size) (h0:v.cells.toList.all Value.oneCell'=true) {K:Wd->Prop} (k:K (w.setRow g v.cells)):SatR ((storeVar T ⟨g,0,none⟩ v).run P w) fun _ w'=>K w':=by
 obtain⟨⟨f,d,c,_,_⟩,_⟩:=hT;have e:∀u∈v.cells.toList,u.oneCell'=true:=Qg.1 h0;have a:=Qb P g 0 t v.cells.toList 0 cs w hg (by simp;omega) e;refine SatR.mk (v:=()) (w':=w.setRow g v.cells) ?_ k;have b:(sizeOf T).run P w = .ok iT.size w:=by simp[sizeOf,typeInfo,d,c]
 simp only[storeVar,US,b,KZ,hv,ne_eq,Qa,Gj];rw[a];congr 2;apply Qc.1;simp[hc,hv]
theorem zn{w:Wd}{g:Nat}{cs cs':Array Value}{t:TypeId}{fr:Nat×Nat}(hg:w.heap[g]?=some (.cells cs t fr)):(w.setRow g cs').heap[g]?=some (.cells cs' t fr):=setRow_heap w g cs cs' t fr hg
theorem zr{w:Wd}{g k:Nat}{cs:Array Value}(h:k≠g):(w.setRow g cs).heap[k]?=w.heap[k]?:=setRow_other w g k cs h
theorem zk{B:Nat}{a w:Wd}(h:Below B a w){g:Nat}(hg:B<=g)(cs:Array Value):Below B a (w.setRow g cs) :=
 h.trans ⟨rfl,rfl,rfl,by simp,fun k b=>zr (by omega)⟩
theorem qW(w:Wd)(g:Nat)(cs:Array Value):w.grownBy (w.setRow g cs) (some g) :=
 ⟨rfl,rfl,rfl,by simp,fun k _ a=>zr (fun e=>a (by rw[e]))⟩
structure MapK (P:Program) (K:TypeId) {κ:Type} [DecidableEq κ] (key:κ->Value):Prop where
 check:∀q e w,(Instr.checkKey e 10000 K (key q)).run P w = .ok () w
 eq:∀q q' w,(Op.equal K (key q) (key q')).run P w = .ok (decide (q=q')) w
 same:∀q,Instr.sameBits 10000 (key q) (key q)=true
 desc:∃d,P.underlying K=some d/\∀q q',Instr.sameNow d (key q) (key q')=none\/Instr.sameNow d (key q) (key q')=some (decide (q=q'))
section
variable{P:Program}{K:TypeId}{κ:Type}[DecidableEq κ]{key:κ->Value}
abbrev Ent (κ:Type):=κ×Value×Nat
def entry (key:κ->Value) (e:Ent κ):MapEntry:=⟨key e.1,e.2.1,e.2.2⟩
def zaP (q:κ):List (Ent κ)->Nat->Option (Nat×Value)
 | [],_=>none
 | e::r,i=>if q=e.1 then some (i,e.2.1) else zaP q r (i+1)
theorem zee(hK:MapK P K key)(q:κ):∀(es:List (Ent κ)) (i:Nat) (w:Wd),(Instr.findAsking K (key q) (es.map (entry key)) i).run P w = .ok (zaP q es i) w
 | [],_,_=>rfl
 | e::r,i,w=>by
  simp only[Uz,Instr.findAsking,US,entry,hK.eq q e.1 w,KZ,zaP];by_cases h:q=e.1
  ·simp[h]
  ·simp only[h,UU,Ku,Gj];exact zee hK q r (i+1) w
theorem zi1{d:TypeDesc}{q:κ}(h:∀q',Instr.sameNow d (key q) (key q')=none\/Instr.sameNow d (key q) (key q')=some (decide (q=q'))):∀(es:List (Ent κ)) (i:Nat),
  Instr.findNow d (key q) (es.map (entry key)) i=none\/Instr.findNow d (key q) (es.map (entry key)) i=some (zaP q es i)
 | [],_ => .inr rfl
 | e::r,i=>by
  simp only[Uz,Instr.findNow,entry,zaP];rcases h e.1 with a | a
  ·rw[a];exact .inl rfl
  ·rw[a];by_cases b:q=e.1
   ·simp[b]
   ·simp only[b,UU,Gj];exact zi1 h r (i+1)
theorem zhd(hK:MapK P K key)(q:κ)(es:List (Ent κ))(w:Wd):(Instr.findKey K (key q) (es.map (entry key))).run P w = .ok (zaP q es 0) w:=by
 obtain⟨d,b,a⟩:=hK.desc;simp only[Instr.findKey,US,Uq b,KZ];rcases zi1 (a q) es 0 with h | h
 ·rw[h];exact zee hK q es 0 w
 ·rw[h];rfl
theorem zfg{q:κ}:∀{es:List (Ent κ)} {i j:Nat} {v:Value},zaP q es i=some (j,v)->∃b,i<=j/\es[j-i]?=some (q,v,b)
 | [],_,_,_,h=>by simp [zaP] at h
 | e::r,i,j,v,h=>by
  simp only[zaP] at h
  split at h
  ·rename_i a;simp only[KY,UD] at h;obtain⟨rfl,rfl⟩:=h;exact⟨e.2.2,UW _,by simp[a]⟩
  ·obtain⟨b,d,c⟩:=zfg h;refine⟨b,by omega,?_⟩;have:j-i=(j-(i+1))+1:=by omega
   rw[this];simpa using c
theorem zfh{q:κ}:∀{es:List (Ent κ)} {i:Nat},zaP q es i=none->∀e∈es,e.1≠q
 | [],_,_,e,he=>by simp at he
 | x::r,i,h,e,he=>by
  simp only[zaP] at h
  split at h
  ·cases h
  ·rename_i a
   cases he with
   | head=>exact fun e=>a e.symm
   | tail _ he=>exact zfh h e he
def asF (es:List (Ent κ)) (q:κ):Option Value:=(zaP q es 0).map (·.2)
theorem zv2(q:κ):asF ([]:List (Ent κ)) q=none:=rfl
theorem zed(q:κ):∀(es:List (Ent κ)) (i:Nat),(zaP q es i).map (·.2)=asF es q
 | [],_=>rfl
 | e::r,i=>by
  unfold asF;simp only[zaP]
  split
  ·rfl
  ·rw[zed q r (i+1),zed q r (0+1)]
theorem zdo(e:Ent κ)(r:List (Ent κ))(q:κ):asF (e::r) q=if q=e.1 then some e.2.1 else asF r q:=by
 unfold asF;simp only[zaP]
 split
 ·rfl
 ·rw[zed];rfl
theorem zfn(e:Ent κ)(q:κ):∀(es:List (Ent κ)),asF (es++[e]) q=(asF es q).or (if q=e.1 then some e.2.1 else none)
 | []=>by rw [QQ,zdo,zv2];simp
 | x::r=>by
  rw[Qi,zdo,zdo,zfn e q r]
  split <;> simp
def MapF (key:κ->Value) (w:Wd) (r:Nat) (f:κ->Option Value):Prop :=
 ∃(es:List (Ent κ)) (clock:Nat),w.heap[r]?=some (.map (es.map (entry key)).toArray clock)/\(∀q,asF es q=f q)/\(es.map (·.1)).Nodup/\(es.map (·.2.2)).Nodup/\(∀e∈es,e.2.2<clock)
def MapS (key:κ->Value) (w:Wd) (r:Nat) (f:κ->Option Value) (q:κ) (born:Nat):Prop :=
 ∃(es:List (Ent κ)) (clock:Nat),w.heap[r]?=some (.map (es.map (entry key)).toArray clock)/\(∀q,asF es q=f q)/\(es.map (·.1)).Nodup/\(es.map (·.2.2)).Nodup/\(∀e∈es,e.2.2<clock)/\∃v,(q,v,born)∈es
theorem MapS.map{w:Wd}{r:Nat}{f:κ->Option Value}{q:κ}{born:Nat}(h:MapS key w r f q born):MapF key w r f:=by
 obtain⟨i,a,g,d,e,b,c,_⟩:=h;exact⟨i,a,g,d,e,b,c⟩
theorem MapF.below{w w2:Wd}{r:Nat}{f:κ->Option Value}(h:MapF key w r f)(hb:Bw w w2):MapF key w2 r f:=by
 obtain⟨b,a,c,qM⟩:=h;exact⟨b,a,zb hb c,qM⟩
theorem MapF.same{w w2:Wd}{r:Nat}{f:κ->Option Value}(h:MapF key w r f)(hb:w2.heap[r]?=w.heap[r]?):MapF key w2 r f:=by
 obtain⟨b,a,c,qM⟩:=h;exact⟨b,a,hb.trans c,qM⟩
theorem MapF.new{w:Wd}:MapF key (w.alloc (.map #[] 0)) w.heap.size (fun(_:κ)=>none) :=
 ⟨[],0,zt w _,fun _=>rfl,by simp,by simp,by simp⟩
theorem zok{T elem:TypeId}(hK:MapK P K key)(hu:P.underlying T=some (.map K elem)){z:Value}(hz:∀w,(zeroValue elem).run P w = .ok z w){w:Wd}{r:Nat}{f:κ->Option Value}(h:MapF key w r f)(q:κ)(ok:Bool) :
  (Instr.lookup T (.map (some r)) (key q) ok).run P w = .ok (if ok then .tuple #[(f q).getD z,.bool (f q).isSome] else(f q).getD z) w:=by
 obtain⟨b,a,d,g,_⟩:=h;have c:(getObj r).run P w = .ok (.map (b.map (entry key)).toArray a) w:=by simp[getObj,Sem.run,d]
 have e:asF b q=f q:=g q;unfold asF at e;simp only[Instr.lookup,US,Uq hu,KZ,c,UT,hK.check q _ w,zhd hK q b w]
 cases hfl:zaP q b 0 with
 | none =>
  rw[hfl] at e;simp only[Ua] at e;simp only[US,hz w,KZ,UT,<- e,Option.getD_none,Option.isSome_none]
  first | done | (cases ok <;> rfl)
 | some p =>
  obtain⟨j,v⟩:=p;rw[hfl] at e;simp only[Ub] at e;simp only[<- e,QB,Option.isSome_some]
  cases ok <;> rfl
theorem zaW{w:Wd}{r:Nat}{o o':Obj}(h:w.heap[r]?=some o):(w.putObj r o').heap[r]?=some o':=by
 have:r<w.heap.size:=hlt h;simp[World.putObj,this]
theorem zj{w:Wd}{r k:Nat}{o:Obj}(h:k≠r):(w.putObj r o).heap[k]?=w.heap[k]?:=by
 have:¬r=k:=fun e=>h e.symm;simp[World.putObj,this]
theorem qC{B:Nat}{a w:Wd}(h:Below B a w){r:Nat}(hr:B<=r)(o:Obj):Below B a (w.putObj r o) :=
 h.trans ⟨rfl,rfl,rfl,by simp[World.putObj],fun k b=>zj (by omega)⟩
theorem zrc(w:Wd)(r:Nat)(o:Obj):w.grownBy (w.putObj r o) (some r) :=
 ⟨rfl,rfl,rfl,by simp[World.putObj],fun k _ a=>zj (fun e=>a (by rw[e]))⟩
theorem zqg{q:κ}{v:Value}{b:Nat}:∀{es:List (Ent κ)},(es.map (·.1)).Nodup->(q,v,b)∈es->asF es q=some v
 | [],_,h=>by simp at h
 | e::r,hn,h=>by
  rw[Uz,QR] at hn;rw[zdo]
  cases h with
  | head=>simp
  | tail _ h =>
   have:q≠e.1:=fun a=>hn.1 (UI.2 ⟨_,h,a⟩);rw[Gm this];exact zqg hn.2 h
theorem zlF{born:Nat}(x:Value)(q:κ)(q':κ):∀(es:List (Ent κ)),(es.map (·.1)).Nodup->(∃v,(q,v,born)∈es)->(∀e∈es,e.2.2=born->e.1=q) ->
  asF (es.map fun e=>if e.2.2=born then(e.1,x,e.2.2) else e) q'=if q'=q then some x else asF es q'
 | [],_,⟨v,h⟩,_=>by simp at h
 | e::r,hn,⟨v,hm⟩,hb=>by
  rw[Uz,QR] at hn;rw[Uz,zdo,zdo];by_cases f:e.2.2=born
  ·have g:e.1=q:=hb e KA f;simp only[f,Gl];rw[g];by_cases a:q'=q
   ·simp[a]
   ·simp only[a,Gj];have b:∀(l:List (Ent κ)),(∀e∈l,e.2.2=born->e.1=q)->q ∉ l.map (·.1)->l.map (fun e=>if e.2.2=born then(e.1,x,e.2.2) else e)=l:=by
     intro l
     induction l with
     | nil=>intros;rfl
     | cons y l ih =>
      intro m k;have j:¬y.2.2=born:=fun j=>k (UI.2 ⟨y,KA,m y KA j⟩);rw[Uz,Gm j,ih (fun z c=>m z (JV _ c)) (fun c=>k (by rw[Uz];exact JV _ c))]
    rw[b r (fun z c=>hb z (JV _ c)) (by rw[<- g];exact hn.1)]
  ·have d:(q,v,born)∈r:=by
    cases hm with
    | head=>exact Gp rfl f
    | tail _ h=>exact h
   simp only[f,Gj];have i:q≠e.1:=fun g=>hn.1 (UI.2 ⟨_,d,g⟩);rw[zlF x q q' r hn.2 ⟨v,d⟩ (fun z c=>hb z (JV _ c))];by_cases a:q'=q
   ·subst a;simp[i]
   ·simp[a]
end
section
variable{P:Program}{κ:Type}[DecidableEq κ]{key:κ->Value}{K:TypeId}
theorem zam{T elem:TypeId}(hK:MapK P K key)(hu:P.underlying T=some (.map K elem)){w:Wd}{r:Nat}{f:κ->Option Value}(h:MapF key w r f)(q:κ)(x:Value) :
  ∃o,(Instr.mapUpdate T (.map (some r)) (key q) x).run P w = .ok () (w.putObj r o)/\MapF key (w.putObj r o) r (fun q'=>if q'=q then some x else f q'):=by
 obtain⟨d,c,hh,hf,hn,hb,hc⟩:=h;have hg:(getObj r).run P w = .ok (.map (d.map (entry key)).toArray c) w:=by simp[getObj,Sem.run,hh]
 have s:∀o,(setObj r o).run P w = .ok () (w.putObj r o):=fun o=>by simp[setObj,Sem.run,hh,World.putObj]
 have e:asF d q=f q:=hf q;unfold asF at e;simp only[Instr.mapUpdate,US,Uq hu,KZ,hg,hK.check q _ w,zhd hK q d w]
 cases hfl:zaP q d 0 with
 | none =>
  rw[hfl] at e;simp only[Ua] at e;refine⟨.map ((d++[(q,x,c)]).map (entry key)).toArray (c+1),?_,?_⟩
  ·have n:(d.map (entry key)).toArray.push { key:=key q,val:=x,born:=c }=((d++[(q,x,c)]).map (entry key)).toArray:=by
    rw[<- Qc];simp[entry]
   simp only[n,s]
  ·refine⟨d++[(q,x,c)],c+1,zaW hh,fun q'=>?_,?_,?_,?_⟩
   ·rw[zfn];by_cases hq:q'=q
    ·subst hq;rw[hf q',<- e];simp
    ·simp[hq,hf q']
   ·rw[QM,Uz,UG];refine List.nodup_append.2 ⟨hn,by simp,?_⟩;intro a ha b l;simp only[KB] at l;subst l;obtain⟨y,g,rfl⟩:=UI.1 ha;exact zfh hfl y g
   ·rw[QM,Uz,UG];refine List.nodup_append.2 ⟨hb,by simp,?_⟩;intro a ha b l;simp only[KB] at l;subst l;obtain⟨y,g,rfl⟩:=UI.1 ha;exact Nat.ne_of_lt (hc y g)
   ·intro y g;rw[QN] at g;rcases g with g | g
    ·exact Nat.lt_succ_of_lt (hc y g)
    ·simp only[KB] at g;subst g;exact Qx _
 | some p =>
  obtain⟨j,v⟩:=p;obtain⟨b,_,z⟩:=zfg hfl;rw[UO] at z;have hm:(q,v,b)∈d:=JW z;have ac:(d.map (entry key)).toArray[j]?=some (entry key (q,v,b)):=by simp[z]
  have only:∀i (hi:i<d.length),(d[i]).2.2=b->i=j:=fun i hi m=>by
   obtain⟨aa,n⟩:=Jr.1 z;by_cases k:i=j
   ·exact k
   ·exfalso
    have h3:=(List.pairwise_iff_getElem.1 hb);rcases Nat.lt_or_gt_of_ne k with hlt | hlt
    ·exact h3 i j (by simpa using hi) (by simpa using aa) hlt (by simp[n,m])
    ·exact h3 j i (by simpa using aa) (by simpa using hi) hlt (by simp[n,m])
  have ad:∀y∈d,y.2.2=b->y.1=q:=fun y g m=>by
   obtain⟨i,hi,e1⟩:=Kj g;have:=only i hi (by rw[e1];exact m);subst this;obtain⟨_,n⟩:=Jr.1 z;rw[<- e1,n]
  have ab:(d.map (entry key)).toArray.modify j (fun e=>{ e with key:=key q,val:=x })=((d.map fun e=>if e.2.2=b then(e.1,x,e.2.2) else e).map (entry key)).toArray:=by
   apply Array.ext_getElem?;intro i;rw[Array.getElem?_modify];by_cases t:i<d.length
   ·by_cases k:j=i
    ·subst k;obtain⟨_,n⟩:=Jr.1 z;rw[Gn rfl,ac];simp[t,n,entry]
    ·rw[Gm k];have:¬(d[i]).2.2=b:=fun h=>k (only i t h).symm;simp[t,this]
   ·have h1:(d.map (entry key)).toArray[i]?=none:=(by simp;omega);have h2:((d.map fun e=>if e.2.2=b then(e.1,x,e.2.2) else e).map (entry key)).toArray[i]?=none:=(by simp;omega);rw[h1,h2];split <;> rfl
  refine⟨.map ((d.map fun e=>if e.2.2=b then(e.1,x,e.2.2) else e).map (entry key)).toArray c,?_,?_⟩
  ·simp only[ac,Ub,QB,entry,Instr.keyThatStays,hK.same q,Gl,UT,KZ,US];have u:=ab;rw[u,s]
  ·refine⟨_,c,zaW hh,fun q'=>?_,?_,?_,?_⟩
   ·rw[zlF x q q' d hn ⟨v,hm⟩ ad,hf q']
   ·have:(d.map fun e=>if e.2.2=b then(e.1,x,e.2.2) else e).map (·.1)=d.map (·.1):=by
     rw[UF];apply Kl;intro e _;simp only[Kg];split <;> rfl
    rw[this];exact hn
   ·have:(d.map fun e=>if e.2.2=b then(e.1,x,e.2.2) else e).map (·.2.2)=d.map (·.2.2):=by
     rw[UF];apply Kl;intro e _;simp only[Kg];split <;> rfl
    rw[this];exact hb
   ·intro e he;obtain⟨y,g,rfl⟩:=UI.1 he
    split
    ·exact hc y g
    ·exact hc y g
end
end Go.Vc
namespace Go.Proofs.YtakcdebpklffiaaGreatDoor
open Go.Vc Go.RowKit
structure MapKw (P:Program) (K:TypeId) {κ:Type} [DecidableEq κ] (key:κ->Value) (w:Wd) (S:κ->Prop):Prop where
 check:∀q e,(Instr.checkKey e 10000 K (key q)).run P w = .ok () w
 eq:∀q q',S q->S q'->(Op.equal K (key q) (key q')).run P w = .ok (decide (q=q')) w
 same:∀q,Instr.sameBits 10000 (key q) (key q)=true
 desc:∃d,P.underlying K=some d/\∀q q',Instr.sameNow d (key q) (key q')=none
section
variable{P:Program}{K:TypeId}{κ:Type}[DecidableEq κ]{key:κ->Value}{w:Wd}{S:κ->Prop}
theorem zhe(hK:MapKw P K key w S)(q:κ)(hq:S q):∀(es:List (Ent κ)) (i:Nat),(∀e∈es,S e.1)->(Instr.findAsking K (key q) (es.map (entry key)) i).run P w = .ok (zaP q es i) w
 | [],_,_=>rfl
 | e::r,i,he=>by
  simp only[Uz,Instr.findAsking,US,entry,hK.eq q e.1 hq (he e (KA ..)),KZ,zaP];by_cases h:q=e.1
  ·simp[h]
  ·simp only[h,UU,Ku,Gj];exact zhe hK q hq r (i+1) fun x a=>he x (JV _ a)
omit [DecidableEq κ] in
theorem findNow_none{d:TypeDesc}{q:κ}(h:∀q',Instr.sameNow d (key q) (key q')=none):∀(es:List (Ent κ)) (i:Nat),es≠[]->Instr.findNow d (key q) (es.map (entry key)) i=none
 | [],_,h=>Gp rfl h
 | e::r,i,_=>by simp only [Uz,Instr.findNow,entry,h]
theorem zmU(hK:MapKw P K key w S)(q:κ)(hq:S q)(es:List (Ent κ))(he:∀e∈es,S e.1):(Instr.findKey K (key q) (es.map (entry key))).run P w = .ok (zaP q es 0) w:=by
 obtain⟨d,b,a⟩:=hK.desc;simp only[Instr.findKey,US,Uq b,KZ];by_cases h:es=[]
 ·subst h;rfl
 ·rw[findNow_none (a q) es 0 h];exact zhe hK q hq es 0 he
theorem zpX{f:κ->Option Value}{es:List (Ent κ)}(hf:∀q,asF es q=f q)(hn:(es.map (·.1)).Nodup)(hS:∀q v,f q=some v->S q):∀e∈es,S e.1:=fun e d=>by
 obtain⟨a,b,c⟩:=e;exact hS a b ((hf a).symm.trans (zqg hn d))
theorem zu3{T elem:TypeId}(hK:MapKw P K key w S)(hu:P.underlying T=some (.map K elem)){z:Value}(hz:∀w,(zeroValue elem).run P w = .ok z w){r:Nat}{f:κ->Option Value}(h:MapF key w r f)(q:κ)(hS:∀q v,f q=some v->S q)(hq:S q)(ok:Bool) :
  (Instr.lookup T (.map (some r)) (key q) ok).run P w = .ok (if ok then .tuple #[(f q).getD z,.bool (f q).isSome] else(f q).getD z) w:=by
 obtain⟨b,a,i,c,k,_⟩:=h;have d:=zpX c k hS;have g:(getObj r).run P w = .ok (.map (b.map (entry key)).toArray a) w:=by simp[getObj,Sem.run,i]
 have e:asF b q=f q:=c q;unfold asF at e;simp only[Instr.lookup,US,Uq hu,KZ,g,UT,hK.check q _,zmU hK q hq b d]
 cases hfl:zaP q b 0 with
 | none =>
  rw[hfl] at e;simp only[Ua] at e;simp only[US,hz w,KZ,UT,<- e,Option.getD_none,Option.isSome_none]
  first | done | (cases ok <;> rfl)
 | some p =>
  obtain⟨j,v⟩:=p;rw[hfl] at e;simp only[Ub] at e;simp only[<- e,QB,Option.isSome_some]
  cases ok <;> rfl
theorem zoi{T elem:TypeId}(hK:MapKw P K key w S)(hu:P.underlying T=some (.map K elem)){r:Nat}{f:κ->Option Value}(h:MapF key w r f)(q:κ)(x:Value)(hS:∀q v,f q=some v->S q)(hq:S q) :
  ∃o,(Instr.mapUpdate T (.map (some r)) (key q) x).run P w = .ok () (w.putObj r o)/\MapF key (w.putObj r o) r (fun q'=>if q'=q then some x else f q'):=by
 obtain⟨d,c,hh,hf,hn,hb,hc⟩:=h;have ae:=zpX hf hn hS;have hg:(getObj r).run P w = .ok (.map (d.map (entry key)).toArray c) w:=by simp[getObj,Sem.run,hh]
 have s:∀o,(setObj r o).run P w = .ok () (w.putObj r o):=fun o=>by simp[setObj,Sem.run,hh,World.putObj]
 have e:asF d q=f q:=hf q;unfold asF at e;simp only[Instr.mapUpdate,US,Uq hu,KZ,hg,hK.check q _,zmU hK q hq d ae]
 cases hfl:zaP q d 0 with
 | none =>
  rw[hfl] at e;simp only[Ua] at e;refine⟨.map ((d++[(q,x,c)]).map (entry key)).toArray (c+1),?_,?_⟩
  ·have n:(d.map (entry key)).toArray.push { key:=key q,val:=x,born:=c }=((d++[(q,x,c)]).map (entry key)).toArray:=by
    rw[<- Qc];simp[entry]
   simp only[n,s]
  ·refine⟨d++[(q,x,c)],c+1,zaW hh,fun q'=>?_,?_,?_,?_⟩
   ·rw[zfn];by_cases hq:q'=q
    ·subst hq;rw[hf q',<- e];simp
    ·simp[hq,hf q']
   ·rw[QM,Uz,UG];refine List.nodup_append.2 ⟨hn,by simp,?_⟩;intro a ha b l;simp only[KB] at l;subst l;obtain⟨y,g,rfl⟩:=UI.1 ha;exact zfh hfl y g
   ·rw[QM,Uz,UG];refine List.nodup_append.2 ⟨hb,by simp,?_⟩;intro a ha b l;simp only[KB] at l;subst l;obtain⟨y,g,rfl⟩:=UI.1 ha;exact Nat.ne_of_lt (hc y g)
   ·intro y g;rw[QN] at g;rcases g with g | g
    ·exact Nat.lt_succ_of_lt (hc y g)
    ·simp only[KB] at g;subst g;exact Qx _
 | some p =>
  obtain⟨j,v⟩:=p;obtain⟨b,_,z⟩:=zfg hfl;rw[UO] at z;have hm:(q,v,b)∈d:=JW z;have ac:(d.map (entry key)).toArray[j]?=some (entry key (q,v,b)):=by simp[z]
  have only:∀i (hi:i<d.length),(d[i]).2.2=b->i=j:=fun i hi m=>by
   obtain⟨aa,n⟩:=Jr.1 z;by_cases k:i=j
   ·exact k
   ·exfalso
    have h3:=(List.pairwise_iff_getElem.1 hb);rcases Nat.lt_or_gt_of_ne k with hlt | hlt
    ·exact h3 i j (by simpa using hi) (by simpa using aa) hlt (by simp[n,m])
    ·exact h3 j i (by simpa using aa) (by simpa using hi) hlt (by simp[n,m])
  have ad:∀y∈d,y.2.2=b->y.1=q:=fun y g m=>by
   obtain⟨i,hi,e1⟩:=Kj g;have:=only i hi (by rw[e1];exact m);subst this;obtain⟨_,n⟩:=Jr.1 z;rw[<- e1,n]
  have ab:(d.map (entry key)).toArray.modify j (fun e=>{ e with key:=key q,val:=x })=((d.map fun e=>if e.2.2=b then(e.1,x,e.2.2) else e).map (entry key)).toArray:=by
   apply Array.ext_getElem?;intro i;rw[Array.getElem?_modify];by_cases t:i<d.length
   ·by_cases k:j=i
    ·subst k;obtain⟨_,n⟩:=Jr.1 z;rw[Gn rfl,ac];simp[t,n,entry]
    ·rw[Gm k];have:¬(d[i]).2.2=b:=fun h=>k (only i t h).symm;simp[t,this]
   ·have h1:(d.map (entry key)).toArray[i]?=none:=(by simp;omega);have h2:((d.map fun e=>if e.2.2=b then(e.1,x,e.2.2) else e).map (entry key)).toArray[i]?=none:=(by simp;omega);rw[h1,h2];split <;> rfl
  refine⟨.map ((d.map fun e=>if e.2.2=b then(e.1,x,e.2.2) else e).map (entry key)).toArray c,?_,?_⟩
  ·simp only[ac,Ub,QB,entry,Instr.keyThatStays,hK.same q,Gl,UT,KZ,US];have u:=ab;rw[u,s]
  ·refine⟨_,c,zaW hh,fun q'=>?_,?_,?_,?_⟩
   ·rw[zlF x q q' d hn ⟨v,hm⟩ ad,hf q']
   ·have:(d.map fun e=>if e.2.2=b then(e.1,x,e.2.2) else e).map (·.1)=d.map (·.1):=by
     rw[UF];apply Kl;intro e _;simp only[Kg];split <;> rfl
    rw[this];exact hn
   ·have:(d.map fun e=>if e.2.2=b then(e.1,x,e.2.2) else e).map (·.2.2)=d.map (·.2.2):=by
     rw[UF];apply Kl;intro e _;simp only[Kg];split <;> rfl
    rw[this];exact hb
   ·intro e he;obtain⟨y,g,rfl⟩:=UI.1 he
    split
    ·exact hc y g
    ·exact hc y g
end
end Go.Proofs.YtakcdebpklffiaaGreatDoor
namespace Go.Vc
open Go.RowKit Go.Lib
theorem zrH(b o i:Nat):(⟨b,o,none⟩:Addr).add i=⟨b,o+i,none⟩:=by
 unfold Addr.add;by_cases h:i=0
 ·simp[h]
 ·simp[h]
theorem zah(p:OA)(cap sz:Nat):qJ p cap 0 sz=p:=by
 unfold qJ
 split
 ·rfl
 ·cases p with
  | none=>rfl
  | some a=>simp [Addr.add]
section
variable{α:Type}{E:Enc α}{w:Wd}{p:OA}{l:List α}
theorem SlR.sub(h:SlR E w p l){cap lo hi:Nat}(h1:lo<=hi)(h2:hi<=l.length)(h3:l.length<=cap):SlR E w (qJ p cap lo E.sz) ((l.drop lo).take (hi-lo)):=by
 by_cases d:hi=lo
 ·left;subst d;simp
 ·rcases h with rfl | ⟨b,o,rfl,e,c⟩
  ·left;simp
  ·right;refine⟨b,o+lo*E.sz,?_,e,fun i a=>?_⟩
   ·unfold qJ;rw[Gm (by omega)];simp[zrH]
   ·simp only[Qr,Qq] at a;have:=c (lo+i) (by omega);rw[List.getElem_take,List.getElem_drop];rw[UB,<- UV];exact this
theorem SlR.none(h:SlR E w none l):l=[]:=by
 rcases h with h | ⟨b,o,h,_⟩
 ·exact h
 ·cases h
theorem zf5{P:Program}{t T ty B cap m c:Nat}{a:OA}{news:List α}{iT:TI}{z:List Value}(hu:P.underlying t=some (.slice T))(hT:TIok P T iT)(hz:iT.zero=some z)
  (hs:iT.size=E.sz) (hzl:z.length=E.sz) (ho:OwnS E T B w p cap l) (hm:news.length=m) (hn:SlR E w a news) (hc:a=none->c=0) (hB:B<=w.heap.size)
  (h1:l.length+m<=9223372036854775807) (h2:(l.length+m)*iT.bytes<=140737488355328) {K:Value->Wd->Prop}
  (k:∀p' cap' w',OwnS E T B w' p' cap' (l++news)->w.grownBy w' (Value.slice p l.length cap).ownBlock->Below B w w'->K (.slice p' (l++news).length cap') w') :
  SatR ((Builtin.append_ #[t,t] ty #[.slice p l.length cap,.slice a m c]).run P w) K:=by
 cases a with
 | none =>
  have hn:=hn.none;have hc:=hc rfl;subst hn hc;simp at hm;subst hm;obtain⟨⟨g,r,x,q,s⟩,_⟩:=hT;refine SatR.mk (run_append_owned_none (P:=P) (w:=w) B t ty T g E.sz hu r _ _ _ ho) ?_;have:=k p cap w (by rw[QG];exact ho) ⟨rfl,rfl,rfl,UW _,fun _ _ _=>rfl⟩ (Gb _ _)
  rwa [QG] at this
 | some a =>
  by_cases j:news=[]
  ·subst j;simp at hm;subst hm;exact jG hu hT hz hs hzl ho (by simp) (fun i v n=>by simp at n) hB h1 h2 fun p' cap' w' h1 h2 f _=>k p' cap' w' h1 h2 f
  ·have e:zI w a (news.flatMap E.enc):=by
    rcases hn with h | ⟨b,o,h,u,d⟩
    ·exact Gp h j
    ·cases h
     exact SlR.cells (.inr ⟨b,o,rfl,u,d⟩)
   exact jG hu hT hz hs hzl ho hm e hB h1 h2 fun p' cap' w' h1 h2 f _=>k p' cap' w' h1 h2 f
theorem zrD{P:Program}{t tn T ty B n:Nat}{kn kq:IntKind}{iT:TI}{z:List Value}(hu:P.underlying t=some (.slice T))(hun:P.underlying tn=some (.int kn))(hT:TIok P T iT)(hz:iT.zero=some z)
  (hs:iT.size=E.sz) (hzl:z.length=E.sz) (hB:B<=w.heap.size) (h0:0<n) (h1:n<=4611686018427387904) (h2:n*iT.bytes<=140737488355328) {K:Value->Wd->Prop}
  (k:∀cap' w',OwnS E T B w' (some ⟨w.heap.size,0,none⟩) cap' ([]:List α)->Bw w w'->n<=cap'->K (.slice (some ⟨w.heap.size,0,none⟩) n cap') w') :
  SatR ((Builtin.append_ #[t,tn] ty #[.slice none 0 0,.int kq n]).run P w) K:=by
 obtain⟨⟨b,m,h,a,e⟩,_⟩:=hT;obtain⟨i,f,d⟩:=e z hz;have j:=run_append_grow_zeros (P:=P) w t tn ty T b i kq kn hu hun m f none 0 0 [] (run_firstCells_none w.drew b.size 0 0 0) n h0 (by rw[h,hs];exact E.pos) (by omega) (by omega) (by rw[a];omega)
  (growslice_fits (by omega) (by rw[a,UQ];omega))
 rw[UQ] at j;have c:=grownCap_ge w n 0 T;refine SatR.mk j (k _ _ ⟨by simp,.inr ⟨w.heap.size,_,_,rfl,hB,heap_alloc_new w.drew _,UZ _,grownCap_le_maxLen w n 0 T (by unfold maxLen;omega),?_,by simp⟩⟩ ((Gb _ _).drew.alloc (UW _) _) c);have g:i.cells.size=E.sz:=by rw[<- hzl,<- d];simp
 simp only[Array.size_append,size_zeroCells,g];simp only[KW,QK,UQ];rw[<- UV];congr 1;omega
end
end Go.Vc
namespace Go.Vc
open Go.RowKit
theorem zbl{a:Int}(h:0<=a/\a<=18446744073709551615):IntKind.u64.wrap a=a:=by
 simp[IntKind.wrap,IntKind.signed,IntKind.bits] <;> omega
def RowS {α:Type} (E:Enc α) (T:TypeId) (w:Wd) (g:Nat) (sp:List Value) (l:List α):Prop :=
 w.heap[g]?=some (.cells (l.flatMap E.enc++sp).toArray T (0,0))
section
variable{α:Type}{E:Enc α}{T:TypeId}{w w2:Wd}{g:Nat}{sp:List Value}{l:List α}
theorem RowS.row(h:RowS E T w g sp l):SlR E w (some ⟨g,0,none⟩) l:=by
 refine SlR.of_cells (hlt h) (zaD fun i v a=>zc (za h) ?_);rw[Jq (Jr.1 a).1];exact a
theorem RowS.at(h:RowS E T w g sp l){i:Nat}(hi:i<l.length):zI w ⟨g,0+i*E.sz,none⟩ (E.enc l[i]):=by
 rcases h.row with c | ⟨b,o,d,_,a⟩
 ·subst c;simp at hi
 ·cases d;exact a i hi
theorem RowS.lt(h:RowS E T w g sp l):g<w.heap.size:=hlt h
theorem RowS.same(h:RowS E T w g sp l)(hs:w2.heap[g]?=w.heap[g]?):RowS E T w2 g sp l:=hs.trans h
theorem RowS.below(h:RowS E T w g sp l)(hb:Bw w w2):RowS E T w2 g sp l:=zb hb h
theorem zmT(l:List α){i:Nat}(hi:i<l.length)(x:α)(sp:List Value) :
  (l.flatMap E.enc++sp).take (i*E.sz)++E.enc x++(l.flatMap E.enc++sp).drop (i*E.sz+E.sz)=(l.set i x).flatMap E.enc++sp:=by
 have b:l=l.take i++l[i]::l.drop (i+1):=by rw[JD,JO]
 have d:((l.take i).flatMap E.enc).length=i*E.sz:=by rw[zZ,Qr,QW (by omega)]
 have a:(l.take i++l[i]::l.drop (i+1)).flatMap E.enc++sp=(l.take i).flatMap E.enc++(E.enc l[i]++((l.drop (i+1)).flatMap E.enc++sp)):=by
  rw[Kh,KR];simp only[KN]
 rw[<- b] at a;rw[Jb,Gn hi,a];rw[Jg (by omega),JE (by omega),List.drop_append,JA (by omega),d];have c:i*E.sz+E.sz-i*E.sz=E.sz:=by omega
 rw[c,QQ,List.drop_append,JA (by rw[E.len];exact UW _),E.len,UN,Uj];simp[Kh]
theorem zgj{P:Program}{Te:TypeId}{iT:TI}(hT:TIok P Te iT)(hs:iT.size=E.sz)(hr:RowS E T w g sp l){i:Nat}(hi:i<l.length)(x:α){K:Wd->Prop}
  (k:∀w',RowS E T w' g sp (l.set i x)->w.grownBy w' (some g)->w'.heap.size=w.heap.size->K w') :
  SatR ((storeVar Te ⟨g,0+i*E.sz,none⟩ (.agg (E.enc x).toArray)).run P w) fun _ w'=>K w':=by
 obtain⟨⟨j,b,e,_,_⟩,_⟩:=hT;have d:(l.flatMap E.enc).length=l.length*E.sz:=zZ l;have h:i*E.sz+E.sz<=l.length*E.sz:=by rw[<- UP];exact Kd _ hi
 have c:=Qb P g (0+i*E.sz) T (E.enc x) 0 _ w hr (by rw[E.len];simp only[KW,lap,d];omega) (E.one x);have a:(sizeOf Te).run P w = .ok iT.size w:=by simp[sizeOf,typeInfo,b,e]
 refine SatR.mk (v:=()) (w':=w.setRow g ((l.set i x).flatMap E.enc++sp).toArray) ?_ (k _ (zn hr) (qW w g _) (by simp));simp only[storeVar,US,a,KZ];have f:(Value.agg (E.enc x).toArray).cells=(E.enc x).toArray:=rfl;rw[f];simp only[KW,E.len,hs,ne_eq,Qa,Gj];rw[c,<- zmT l hi x sp];simp only[E.len,UQ,UK]
theorem qo(w:Wd)(row:Option Nat):w.grownBy w row:=⟨rfl,rfl,rfl,UW _,fun _ _ _=>rfl⟩
theorem zd{a b c:Wd}{row:Option Nat}(h:a.grownBy b row)(k:b.grownBy c row):a.grownBy c row :=
 ⟨k.os.trans h.os,k.tape.trans h.tape,k.output.trans h.output,UL h.size k.size,fun i d e=>(k.block i (nL d h.size) e).trans (h.block i d e)⟩
theorem zi{a b:Wd}{row:Option Nat}(h:Bw a b):a.grownBy b row:=⟨h.os,h.tape,h.output,h.size,fun k c _=>h.block k c⟩
theorem jn{P:Program}{Te:TypeId}{iT:TI}(hT:TIok P Te iT)(hs:iT.size=1){cs:Array Value}{t:TypeId}(hg:w.heap[g]?=some (.cells cs t (0,0))){o:Nat}(ho:o<cs.size){v:Value}(hv:v.cells = #[v])(h1:v.oneCell'=true){K:Wd->Prop}
  (k:∀w',w'.heap[g]?=some (.cells (cs.toList.take o++[v]++cs.toList.drop (o+1)).toArray t (0,0))->w.grownBy w' (some g)->w'.heap.size=w.heap.size->K w') :
  SatR ((storeVar Te ⟨g,o,none⟩ v).run P w) fun _ w'=>K w':=by
 obtain⟨⟨e,b,d,_,_⟩,_⟩:=hT;have c:=Qb P g o t [v] 0 cs w hg (by simp;omega) (by simp[h1]);have a:(sizeOf Te).run P w = .ok iT.size w:=by simp[sizeOf,typeInfo,b,d]
 refine SatR.mk (v:=()) (w':=w.setRow g (cs.toList.take o++[v]++cs.toList.drop (o+1)).toArray) ?_ (k _ (zn hg) (qW w g _) (by simp));simp only[storeVar,US,a,KZ,hv,hs];simpa using c
end
end Go.Vc
namespace Go.Sei
open Go.Vc
structure Msg where
 kind:UInt8
 from_:UInt8
 to:UInt8
 line:UInt8
 asker:UInt8
 acks:UInt8
 alone:Bool
 d0:UInt8
 d1:UInt8
 d2:UInt8
 d3:UInt8
 deriving DecidableEq
def Msg.enc (m:Msg):List Value:=[u8 m.kind,u8 m.from_,u8 m.to,u8 m.line,u8 m.asker,u8 m.acks,.bool m.alone,u8 m.d0,u8 m.d1,u8 m.d2,u8 m.d3]
def Msg.val (m:Msg):Value := .agg m.enc.toArray
def zvb:Enc Int:=⟨fun n=>[.int .i64 n],1,fun _=>rfl,by decide,fun a u hu=>by
 simp only[UA,Qs,Gk] at hu;subst hu;rfl⟩
end Go.Sei
namespace Go.Vc
open Go.RowKit
inductive Mk where
 | p
 | s (a b:Mk)
 | c (a b:Mk)
 | d (a b:Mk)
 | b (a:Mk)
 | l (a:Mk)
def zym (first:(Exit->Env->Wd->Prop)->Prop) (second:Env->Wd->(Exit->Env->Wd->Prop)->Prop) (Q:Exit->Env->Wd->Prop):Prop :=
 ∃(σ:Type) (env:σ->Env) (inv:σ->Wd->Prop),(first fun ex E' w'=>match ex with
  | .normal=>∃s,Cov E' (env s)/\inv s w'
  | ex=>Q ex E' w')/\∀s w',inv s w'->second (env s) w' Q
noncomputable def wpM (S:Sig) (m:Mk):Code->Env->Wd->(Exit->Env->Wd->Prop)->Prop :=
 Mk.rec (motive:=fun _=>Code->Env->Wd->(Exit->Env->Wd->Prop)->Prop)
  (fun c E w Q=>wpE S c E w Q)
  (fun _ _ ia ib c E w Q=>match c with
   | .seq x y=>ia x E w fun ex E' w'=>match ex with
    | .normal=>ib y E' w' Q
    | ex=>Q ex E' w'
   | _=>False)
  (fun _ _ ia ib c E w Q=>match c with
   | .seq x y=>zym (fun Q=>ia x E w Q) (fun E w Q=>ib y E w Q) Q
   | _=>False)
  (fun _ _ ia ib c E w Q=>match c with
   | .cond c x y=>(match opd E c with
    | some (.bool v)=>Br v (ia x E w Q) (ib y E w Q)
    | _=>False)
   | _=>False)
  (fun _ ia c E w Q=>match c with
   | .block id x=>ia x E w fun ex E' w'=>match ex with
    | .exit id'=>(match Nat.beq id' id with
     | true=>Q .normal E' w'
     | false=>Q (.exit id') E' w')
    | ex=>Q ex E' w'
   | _=>False)
  (fun _ ia c E w Q=>match c with
   | .loop x=>zua (fun E w Q=>ia x E w Q) E w Q
   | _=>False)
  m
section
variable{S:Sig}
theorem zaG(hS:SigOk S):∀(m:Mk) (c:Code) (E:Env) (a:Act) (w:Wd) (Q:Exit->Env->Wd->Prop),Agrees S a E->wpM S m c E w Q->c.wpIn (FR S.r) NN S.P (zjC S Q) a w
 | .p,c,E,a,w,Q,j,h=>ji hS c E a w Q j h
 | .s m k,.seq x y,E,a,w,Q,j,h=>by
  replace h:(wpM S m x E w fun i E' o=>match i with | .normal=>wpM S k y E' o Q | i=>Q i E' o):=h;refine wpIn_seq (Gg (zaG hS m x E a w _ j h) ?_);rintro i z o ⟨E',f,n⟩
  cases i with
  | normal=>exact zaG hS k y E' z o Q f n
  | _=>exact⟨E',f,n⟩
 | .c m k,.seq x y,E,a,w,Q,j,h=>by
  replace h:zym (fun Q=>wpM S m x E w Q) (fun E w Q=>wpM S k y E w Q) Q:=h;obtain⟨σ,g,inv,h1,h2⟩:=h;refine wpIn_seq (Gg (zaG hS m x E a w _ j h1) ?_);rintro i z o ⟨E',f,n⟩
  cases i with
  | normal =>
   obtain⟨s,hc,hi⟩:=n;exact zaG hS k y (g s) z o Q (f.cov hc) (h2 s o hi)
  | _=>exact⟨E',f,n⟩
 | .d m k,.cond c x y,E,a,w,Q,j,h=>by
  replace h:(match opd E c with | some (.bool v)=>Br v (wpM S m x E w Q) (wpM S k y E w Q) | _=>False):=h
  split at h
  ·rename_i b u;refine wpIn_cond_split (j.eval u) (fun e=>zaG hS m x E a w Q j (h.1 e)) (fun e=>zaG hS k y E a w Q j (h.2 e))
  ·exact h.elim
 | .b m,.block id x,E,a,w,Q,j,h=>by
  replace h:(wpM S m x E w fun i E' o=>match i with | .exit id'=>(match Nat.beq id' id with | true=>Q .normal E' o | false=>Q (.exit id') E' o) | i=>Q i E' o):=h;refine wpIn_block (Gg (zaG hS m x E a w _ j h) ?_);rintro i z o ⟨E',f,n⟩
  cases i with
  | exit id' =>
   simp only[Exit.inBlock];dsimp only at n
   split at n
   ·rename_i u;rw[Gn (JP u)];exact⟨E',f,n⟩
   ·rename_i u;rw[Gm (Nat.ne_of_beq_eq_false u)];exact⟨E',f,n⟩
  | _=>exact⟨E',f,n⟩
 | .l m,.loop x,E,a,w,Q,j,h=>by
  replace h:zua (fun E w Q=>wpM S m x E w Q) E w Q:=h;obtain⟨σ,g,inv,μ,s0,hc,hi,u⟩:=h;have ab:∀m s a w,μ s=m->Agrees S a (g s)->inv s w->(Code.loop x).wpIn (FR S.r) NN S.P (zjC S Q) a w:=by
   intro m' s a w hm j hi;refine wpIn_loop (fun a w=>∃s,Agrees S a (g s)/\inv s w) (fun a w=>leastOf (fun k=>∃s,Agrees S a (g s)/\inv s w/\μ s=k)) ⟨s,j,hi⟩ ?_;intro a w ⟨s1,aa,ad⟩;obtain⟨⟨s2,af,ae,ac⟩,_⟩:=leastOf_spec (p:=fun k=>∃s,Agrees S a (g s)/\inv s w/\μ s=k) ⟨_,s1,aa,ad,rfl⟩;refine Gg (zaG hS m x (g s2) a w _ af (u s2 w ae)) ?_;rintro i z o ⟨E',f,n⟩
   cases i with
   | normal =>
    obtain⟨s',q,t,hlt⟩:=n;refine⟨⟨s',f.cov q,t⟩,?_⟩;have:=(leastOf_spec (p:=fun k=>∃s,Agrees S z (g s)/\inv s o/\μ s=k) ⟨_,s',f.cov q,t,rfl⟩).2;rw[<- ac];exact KF (this _ ⟨s',f.cov q,t,rfl⟩) hlt
   | _=>exact⟨E',f,n⟩
  exact ab _ s0 a w rfl (j.cov hc) hi
 | .s _ _,.skip,_,_,_,_,_,h=>h.elim
 | .s _ _,.region _ _ _,_,_,_,_,_,h=>h.elim
 | .s _ _,.cond _ _ _,_,_,_,_,_,h=>h.elim
 | .s _ _,.block _ _,_,_,_,_,_,h=>h.elim
 | .s _ _,.loop _,_,_,_,_,_,h=>h.elim
 | .s _ _,.rangeFunc _ _ _ _,_,_,_,_,_,h=>h.elim
 | .s _ _,.exit _,_,_,_,_,_,h=>h.elim
 | .s _ _,.scope _,_,_,_,_,_,h=>h.elim
 | .s _ _,.label _,_,_,_,_,_,h=>h.elim
 | .s _ _,.goto _,_,_,_,_,_,h=>h.elim
 | .s _ _,.ret,_,_,_,_,_,h=>h.elim
 | .s _ _,.refuse _,_,_,_,_,_,h=>h.elim
 | .c _ _,.skip,_,_,_,_,_,h=>h.elim
 | .c _ _,.region _ _ _,_,_,_,_,_,h=>h.elim
 | .c _ _,.cond _ _ _,_,_,_,_,_,h=>h.elim
 | .c _ _,.block _ _,_,_,_,_,_,h=>h.elim
 | .c _ _,.loop _,_,_,_,_,_,h=>h.elim
 | .c _ _,.rangeFunc _ _ _ _,_,_,_,_,_,h=>h.elim
 | .c _ _,.exit _,_,_,_,_,_,h=>h.elim
 | .c _ _,.scope _,_,_,_,_,_,h=>h.elim
 | .c _ _,.label _,_,_,_,_,_,h=>h.elim
 | .c _ _,.goto _,_,_,_,_,_,h=>h.elim
 | .c _ _,.ret,_,_,_,_,_,h=>h.elim
 | .c _ _,.refuse _,_,_,_,_,_,h=>h.elim
 | .d _ _,.skip,_,_,_,_,_,h=>h.elim
 | .d _ _,.region _ _ _,_,_,_,_,_,h=>h.elim
 | .d _ _,.seq _ _,_,_,_,_,_,h=>h.elim
 | .d _ _,.block _ _,_,_,_,_,_,h=>h.elim
 | .d _ _,.loop _,_,_,_,_,_,h=>h.elim
 | .d _ _,.rangeFunc _ _ _ _,_,_,_,_,_,h=>h.elim
 | .d _ _,.exit _,_,_,_,_,_,h=>h.elim
 | .d _ _,.scope _,_,_,_,_,_,h=>h.elim
 | .d _ _,.label _,_,_,_,_,_,h=>h.elim
 | .d _ _,.goto _,_,_,_,_,_,h=>h.elim
 | .d _ _,.ret,_,_,_,_,_,h=>h.elim
 | .d _ _,.refuse _,_,_,_,_,_,h=>h.elim
 | .b _,.skip,_,_,_,_,_,h=>h.elim
 | .b _,.region _ _ _,_,_,_,_,_,h=>h.elim
 | .b _,.seq _ _,_,_,_,_,_,h=>h.elim
 | .b _,.cond _ _ _,_,_,_,_,_,h=>h.elim
 | .b _,.loop _,_,_,_,_,_,h=>h.elim
 | .b _,.rangeFunc _ _ _ _,_,_,_,_,_,h=>h.elim
 | .b _,.exit _,_,_,_,_,_,h=>h.elim
 | .b _,.scope _,_,_,_,_,_,h=>h.elim
 | .b _,.label _,_,_,_,_,_,h=>h.elim
 | .b _,.goto _,_,_,_,_,_,h=>h.elim
 | .b _,.ret,_,_,_,_,_,h=>h.elim
 | .b _,.refuse _,_,_,_,_,_,h=>h.elim
 | .l _,.skip,_,_,_,_,_,h=>h.elim
 | .l _,.region _ _ _,_,_,_,_,_,h=>h.elim
 | .l _,.seq _ _,_,_,_,_,_,h=>h.elim
 | .l _,.cond _ _ _,_,_,_,_,_,h=>h.elim
 | .l _,.block _ _,_,_,_,_,_,h=>h.elim
 | .l _,.rangeFunc _ _ _ _,_,_,_,_,_,h=>h.elim
 | .l _,.exit _,_,_,_,_,_,h=>h.elim
 | .l _,.scope _,_,_,_,_,_,h=>h.elim
 | .l _,.label _,_,_,_,_,_,h=>h.elim
 | .l _,.goto _,_,_,_,_,_,h=>h.elim
 | .l _,.ret,_,_,_,_,_,h=>h.elim
 | .l _,.refuse _,_,_,_,_,_,h=>h.elim
theorem zoH(hS:SigOk S){f:FuncId}{fn:Func}{c:Code}{args:List Value}{w:Wd}{R:Ending->Wd->Prop}(m:Mk)
  (hf:S.P.funcs[f]?=some fn) (hb:fn.body=some c) (hn:fn.ntmps=S.n) (hle:args.length<=S.n) (hr:S.r=none)
  (h:wpM S m c ⟨zeV 0 args,[]⟩ w (zpk S fn R)):Calls S.P f args.toArray w R:=by
 rw[<- callsIn_wide (n:=NN)];have i:FR none=Fence.wide:=rfl;rw[<- i];refine callsIn_of_wp_marks hf hb trivial ?_;have p:Agrees S { tmps:=args.toArray++Array.replicate (fn.ntmps-args.toArray.size) undef,defers:=[] } ⟨zeV 0 args,[]⟩:=by
  refine⟨?_,rfl,fun t v g=>?_⟩
  ·simp[hn];omega
  ·obtain⟨_,d⟩:=zfo _ _ _ _ g;simp only[UO] at d;have hlt:t<args.length:=(Jr.1 d).1;simp only[Array.getElem?_append,KW,hlt,Gl];simpa using d
 have e:=zaG hS m c _ _ w _ p h;rw[hr] at e;refine Gg e ?_;rintro l j q ⟨E',a,b⟩
 cases l with
 | normal=>have:=zbr hS a _ _ b;rw [<- a.defers] at this;exact this
 | ret=>have:=zbr hS a _ _ b;rw [<- a.defers] at this;exact this
 | panic ch =>
  obtain⟨k,o⟩:=b;show LeavesInM _ _ _ _ _ _ j.defers _ _;rw[a.defers,k];exact o
 | exit _=>exact b.elim
 | goto _=>exact b.elim
 | outgrown=>exact b.elim
end
end Go.Vc
namespace Go.Proofs.YtakcdebpklffiaaGreatDoor
open Go.Vc Go.RowKit
abbrev zU6:Value := .int .u64 0
abbrev zU8:Value := .int .u8 0
abbrev zU3:Value := .int .u32 0
abbrev zI6:Value := .int .i64 0
def zum:List Value:=[zI6,zU6,zU6,zU6,zU6,zU6,zU6,zU6,zU6,zU6,zU6,zU6,zU6,zU6,zU6,zU6,zU6,zU6,zU6,zU6,zU6,zU6,zU6,zU6,zU6,zU6,zU6,zU6,zU6,zU6,zU6,zU6,zU6,zU6,zU6,zU6,zU6,zU6,zU6,zU6,zU6,zU6,zU6,zU6,zU6,zU6,zU6,zU6,zU6]
def znC:List Value:=[.slice none 0 0,zI6,zU6,zU6,zU6,zU6,zU6,zU6,zU6,zU6,zU6,zU6,zU6,zU6,zU6,zU6,zU6,zU6,zU6,zU6,zU6,zU6,zU6,zU6,zU6,zU6,zU6,zU6,zU6,zU6,zU6,zU6,zU6,zU6,zU6,zU6,zU6,zU6,zU6,zU6,zU6,zU6,zU6,zU6,zU6,zU6,zU6,zU6,zU6,zU6,zI6,zU6,zU6,zU6,zU6,zU6,zU6,zU6,zU6,zU6,zU6,zU6,zU6,zU6,zU6,zU6,zU6,zU6,zU6,zU6,zU6,zU6,zU6,zU6,zU6,zU6,zU6,zU6,zU6,zU6,zU6,zU6,zU6,zU6,zU6,zU6,zU6,zU6,zU6,zU6,zU6,zU6,zU6,zU6,zU6,zU6,zU6,zU6,zU6,zI6,zU6,zU6,zU6,zU6,zU6,zU6,zU6,zU6,zU6,zU6,zU6,zU6,zU6,zU6,zU6,zU6,zU6,zU6,zU6,zU6,zU6,zU6,zU6,zU6,zU6,zU6,zU6,zU6,zU6,zU6,zU6,zU6,zU6,zU6,zU6,zU6,zU6,zU6,zU6,zU6,zU6,zU6,zU6,zU6,zU6,zU6,zU6,zU6,zI6,zU6,zU6,zU6,zU6,zU6,zU6,zU6,zU6,zU6,zU6,zU6,zU6,zU6,zU6,zU6,zU6,zU6,zU6,zU6,zU6,zU6,zU6,zU6,zU6,zU6,zU6,zU6,zU6,zU6,zU6,zU6,zU6,zU6,zU6,zU6,zU6,zU6,zU6,zU6,zU6,zU6,zU6,zU6,zU6,zU6,zU6,zU6,zU6,zI6,zU6,zU6,zU6,zU6,zU6,zU6,zU6,zU6,zU6,zU6,zU6,zU6,zU6,zU6,zU6,zU6,zU6,zU6,zU6,zU6,zU6,zU6,zU6,zU6,zU6,zU6,zU6,zU6,zU6,zU6,zU6,zU6,zU6,zU6,zU6,zU6,zU6,zU6,zU6,zU6,zU6,zU6,zU6,zU6,zU6,zU6,zU6,zU6,zI6,zU6,zU6,zU6,zU6,zU6,zU6,zU6,zU6,zU6,zU6,zU6,zU6,zU6,zU6,zU6,zU6,zU6,zU6,zU6,zU6,zU6,zU6,zU6,zU6,zU6,zU6,zU6,zU6,zU6,zU6,zU6,zU6,zU6,zU6,zU6,zU6,zU6,zU6,zU6,zU6,zU6,zU6,zU6,zU6,zU6,zU6,zU6,zU6,zU8,zU8,zU8,zU8,zU8,zU8,zU8,zU8,zU8,zU8,zU8,zU8,zU8,zU8,zU8,zU8,zU8,zU8,zU8,zU8,zU8,zU8,zU8,zU8,zU8,zU8,zU8,zU8,zU8,zU8,zU8,zU8,zU8,zU8,zU8,zU8,zU8,zU8]
def zdP:List Value:=[.slice none 0 0,zI6,zU6,zU6,zU6,zU6,zU6,zU6,zU6,zU6,zU6,zU6,zU6,zU6,zU6,zU6,zU6,zU6,zU6,zU6,zU6,zU6,zU6,zU6,zU6,zU6,zU6,zU6,zU6,zU6,zU6,zU6,zU6,zU6,zU6,zU6,zU6,zU6,zU6,zU6,zU6,zU6,zU6,zU6,zU6,zU6,zU6,zU6,zU6,zU6,zI6,zU6,zU6,zU6,zU6,zU6,zU6,zU6,zU6,zU6,zU6,zU6,zU6,zU6,zU6,zU6,zU6,zU6,zU6,zU6,zU6,zU6,zU6,zU6,zU6,zU6,zU6,zU6,zU6,zU6,zU6,zU6,zU6,zU6,zU6,zU6,zU6,zU6,zU6,zU6,zU6,zU6,zU6,zU6,zU6,zU6,zU6,zU6,zU6,zI6,zU6,zU6,zU6,zU6,zU6,zU6,zU6,zU6,zU6,zU6,zU6,zU6,zU6,zU6,zU6,zU6,zU6,zU6,zU6,zU6,zU6,zU6,zU6,zU6,zU6,zU6,zU6,zU6,zU6,zU6,zU6,zU6,zU6,zU6,zU6,zU6,zU6,zU6,zU6,zU6,zU6,zU6,zU6,zU6,zU6,zU6,zU6,zU6,zI6,zU6,zU6,zU6,zU6,zU6,zU6,zU6,zU6,zU6,zU6,zU6,zU6,zU6,zU6,zU6,zU6,zU6,zU6,zU6,zU6,zU6,zU6,zU6,zU6,zU6,zU6,zU6,zU6,zU6,zU6,zU6,zU6,zU6,zU6,zU6,zU6,zU6,zU6,zU6,zU6,zU6,zU6,zU6,zU6,zU6,zU6,zU6,zU6,zI6,zU6,zU6,zU6,zU6,zU6,zU6,zU6,zU6,zU6,zU6,zU6,zU6,zU6,zU6,zU6,zU6,zU6,zU6,zU6,zU6,zU6,zU6,zU6,zU6,zU6,zU6,zU6,zU6,zU6,zU6,zU6,zU6,zU6,zU6,zU6,zU6,zU6,zU6,zU6,zU6,zU6,zU6,zU6,zU6,zU6,zU6,zU6,zU6,zI6,zU6,zU6,zU6,zU6,zU6,zU6,zU6,zU6,zU6,zU6,zU6,zU6,zU6,zU6,zU6,zU6,zU6,zU6,zU6,zU6,zU6,zU6,zU6,zU6,zU6,zU6,zU6,zU6,zU6,zU6,zU6,zU6,zU6,zU6,zU6,zU6,zU6,zU6,zU6,zU6,zU6,zU6,zU6,zU6,zU6,zU6,zU6,zU6,zU8,zU8,zU8,zU8,zU8,zU8,zU8,zU8,zU8,zU8,zU8,zU8,zU8,zU8,zU8,zU8,zU8,zU8,zU8,zU8,zU8,zU8,zU8,zU8,zU8,zU8,zU8,zU8,zU8,zU8,zU8,zU8,zU8,zU8,zU8,zU8,zU8,zU8,.slice none 0 0,.slice none 0 0,.slice none 0 0]
def zxL:List Value:=[zI6,zU8,zU8,zU8,zU8,zU8,zU8,zI6,zU8,zU8,zU8,zU8,zU8,zU8,zI6,zU8,zU8,zU8,zU8,zU8,zU8,zI6,zU8,zU8,zU8,zU8,zU8,zU8,zI6,zU8,zU8,zU8,zU8,zU8,zU8,zI6,zU8,zU8,zU8,zU8,zU8,zU8,zI6,zU8,zU8,zU8,zU8,zU8,zU8,zI6,zU8,zU8,zU8,zU8,zU8,zU8,zI6,zU8,zU8,zU8,zU8,zU8,zU8,zI6,zU8,zU8,zU8,zU8,zU8,zU8,zI6,zU8,zU8,zU8,zU8,zU8,zU8,zI6,zU8,zU8,zU8,zU8,zU8,zU8,zI6,zU8,zU8,zU8,zU8,zU8,zU8,zI6,zU8,zU8,zU8,zU8,zU8,zU8,zI6,zU8,zU8,zU8,zU8,zU8,zU8,zI6,zU8,zU8,zU8,zU8,zU8,zU8,zI6,zU8,zU8,zU8,zU8,zU8,zU8,zI6,zU8,zU8,zU8,zU8,zU8,zU8,zI6,zU8,zU8,zU8,zU8,zU8,zU8,zI6,zU8,zU8,zU8,zU8,zU8,zU8,zI6,zU8,zU8,zU8,zU8,zU8,zU8,zI6,zU8,zU8,zU8,zU8,zU8,zU8,zI6,zU8,zU8,zU8,zU8,zU8,zU8,zI6,zU8,zU8,zU8,zU8,zU8,zU8]
def zoU:List Value:=[zI6,zU8,zU8,zU8,zU8,zU8,zU8,zU8,zU8,zU3,zU3,zU3,zU3,zU3,zU3,zU3,zU3,zU3,zI6,zI6,zU8,zU8,zU8,zU8,zU8,zU8,zI6,zU8,zU8,zU8,zU8,zU8,zU8,zI6,zU8,zU8,zU8,zU8,zU8,zU8,zI6,zU8,zU8,zU8,zU8,zU8,zU8,zI6,zU8,zU8,zU8,zU8,zU8,zU8,zI6,zU8,zU8,zU8,zU8,zU8,zU8,zI6,zU8,zU8,zU8,zU8,zU8,zU8,zI6,zU8,zU8,zU8,zU8,zU8,zU8,zI6,zU8,zU8,zU8,zU8,zU8,zU8,zI6,zU8,zU8,zU8,zU8,zU8,zU8,zI6,zU8,zU8,zU8,zU8,zU8,zU8,zI6,zU8,zU8,zU8,zU8,zU8,zU8,zI6,zU8,zU8,zU8,zU8,zU8,zU8,zI6,zU8,zU8,zU8,zU8,zU8,zU8,zI6,zU8,zU8,zU8,zU8,zU8,zU8,zI6,zU8,zU8,zU8,zU8,zU8,zU8,zI6,zU8,zU8,zU8,zU8,zU8,zU8,zI6,zU8,zU8,zU8,zU8,zU8,zU8,zI6,zU8,zU8,zU8,zU8,zU8,zU8,zI6,zU8,zU8,zU8,zU8,zU8,zU8,zI6,zU8,zU8,zU8,zU8,zU8,zU8,zI6,zU8,zU8,zU8,zU8,zU8,zU8,zI6,zU8,zU8,zU8,zU8,zU8,zU8,zI6,zU8,zU8,zU8,zU8,zU8,zU8,zU3,zU3,zU3,zU3,zU3,zU3,zU3,zU3,zU3,zU3,zU3,zU3,zU3,zU3,zU3,zU3,zU3,zU3,zU3,zU3,zU3,zU3,zU3,zU3,zU3,zU3,zU3,zU3,zU3,zU3,zU3,zU3,zU3,zU3,zU3,zU3,zU3,zU3,zU3,zU3,zU3,zU3,zU3,zU3,zU3,zU3,zU3,zU3,zU3,zU3,zU3,zU3,zU3,zU3,zU3,zU3,zU3,zU3,zU3,zU3,zU3,zU3,zU3,zU3,zU3,zU3,zU3,zU3,zU3,zU3,zU3,zU3]
def zxK:List Value:=znC++(zum++(zum++zum))
def tt:TT:=[
 (0,⟨.other,1,false,0,none⟩),
 (3,⟨.int .i64,1,false,8,some [.int .i64 0]⟩),
 (4,⟨.bool,1,false,1,some [.bool false]⟩),
 (5,⟨.int .u8,1,false,1,some [.int .u8 0]⟩),
 (9,⟨.string,1,false,16,some [.string ByteArray.empty]⟩),
 (20,⟨.other,1,false,16,some [.nilIface]⟩),
 (22,⟨.slice 9 1,1,false,24,some [.slice none 0 0]⟩),
 (23,⟨.slice 5 1,1,false,24,some [.slice none 0 0]⟩),
 (24,⟨.slice 64 1,1,false,24,some [.slice none 0 0]⟩),
 (25,⟨.slice 27 5,1,false,24,some [.slice none 0 0]⟩),
 (27,⟨.struct [(0,1,false),(1,1,false),(2,1,false),(3,1,false),(4,1,false)],5,true,32,some [.int .u8 0,.int .u8 0,.int .u8 0,.int .u8 0,.slice none 0 0]⟩),
 (29,⟨.struct [(0,1,false),(1,1,false),(2,1,false),(3,1,false),(4,1,false),(5,5,true)],10,true,128,some [.string ByteArray.empty,.slice none 0 0,.slice none 0 0,.slice none 0 0,.int .u8 0,.int .u8 0,.int .u8 0,.int .u8 0,.int .u8 0,.slice none 0 0]⟩),
 (31,⟨.other,1,false,8,some [.nilFunc]⟩),
 (32,⟨.slice 78 333,1,false,24,some [.slice none 0 0]⟩),
 (33,⟨.int .i64,1,false,8,some [.int .i64 0]⟩),
 (34,⟨.other,1,false,0,none⟩),
 (40,⟨.slice 52 38,1,false,24,some [.slice none 0 0]⟩),
 (41,⟨.array 7 40 1 false,7,true,168,some (List.replicate 7 (.slice none 0 0))⟩),
 (42,⟨.other,1,false,0,none⟩),
 (46,⟨.array 2 5 1 false,2,true,2,some [.int .u8 0,.int .u8 0]⟩),
 (47,⟨.slice 46 2,1,false,24,some [.slice none 0 0]⟩),
 (48,⟨.array 8 5 1 false,8,true,8,some (List.replicate 8 (.int .u8 0))⟩),
 (49,⟨.array 4 48 8 true,32,true,32,some (List.replicate 32 (.int .u8 0))⟩),
 (50,⟨.array 6 5 1 false,6,true,6,some (List.replicate 6 (.int .u8 0))⟩),
 (52,⟨.struct [(0,32,true),(32,6,true)],38,true,38,some (List.replicate 38 (.int .u8 0))⟩),
 (59,⟨.int .u64,1,false,8,some [.int .u64 0]⟩),
 (64,⟨.slice 68 10,1,false,24,some [.slice none 0 0]⟩),
 (66,⟨.struct [(0,1,false),(1,1,false)],2,true,2,some [.bool false,.int .u8 0]⟩),
 (68,⟨.struct [(0,1,false),(1,1,false),(2,1,false),(3,2,true),(5,2,true),(7,1,false),(8,1,false),(9,1,false)],10,true,10,some [.int .u8 0,.int .u8 0,.int .u8 0,.bool false,.int .u8 0,.bool false,.int .u8 0,.int .u8 0,.int .u8 0,.int .u8 0]⟩),
 (70,⟨.other,1,false,8,some [.nilFunc]⟩),
 (72,⟨.slice 80 7,1,false,24,some [.slice none 0 0]⟩),
 (73,⟨.int .u64,1,false,8,some [.int .u64 0]⟩),
 (74,⟨.array 48 73 1 false,48,true,384,some (List.replicate 48 (.int .u64 0))⟩),
 (76,⟨.struct [(0,1,false),(1,48,true)],49,true,392,some zum⟩),
 (78,⟨.struct [(0,1,false),(1,49,true),(50,49,true),(99,49,true),(148,49,true),(197,49,true),(246,49,true),(295,38,true)],333,true,2416,some znC⟩),
 (80,⟨.struct [(0,1,false),(1,1,false),(2,1,false),(3,1,false),(4,1,false),(5,1,false),(6,1,false)],7,true,16,some [.int .i64 0,.int .u8 0,.int .u8 0,.int .u8 0,.int .u8 0,.int .u8 0,.int .u8 0]⟩),
 (81,⟨.other,1,false,8,some [.nilFunc]⟩),
 (83,⟨.other,1,false,0,none⟩),
 (85,⟨.slice 92 336,1,false,24,some [.slice none 0 0]⟩),
 (86,⟨.other,1,false,0,none⟩),
 (88,⟨.ptr 29,1,false,8,some [.pointer none]⟩),
 (89,⟨.slice 3 1,1,false,24,some [.slice none 0 0]⟩),
 (90,⟨.slice 89 1,1,false,24,some [.slice none 0 0]⟩),
 (92,⟨.struct [(0,333,true),(333,1,false),(334,1,false),(335,1,false)],336,true,2488,some zdP⟩),
 (95,⟨.other,1,false,8,some [.nilFunc]⟩),
 (96,⟨.other,1,false,8,some [.nilFunc]⟩),
 (100,⟨.slice 101 1,1,false,24,some [.slice none 0 0]⟩),
 (101,⟨.slice 145 12,1,false,24,some [.slice none 0 0]⟩),
 (111,⟨.other,1,false,0,none⟩),
 (117,⟨.slice 120 2,1,false,24,some [.slice none 0 0]⟩),
 (120,⟨.struct [(0,1,false),(1,1,false)],2,true,16,some [.int .i64 0,.nilFunc]⟩),
 (121,⟨.array 8 4 1 false,8,true,8,some (List.replicate 8 (.bool false))⟩),
 (129,⟨.ptr 76,1,false,8,some [.pointer none]⟩),
 (130,⟨.slice 129 1,1,false,24,some [.slice none 0 0]⟩),
 (134,⟨.ptr 78,1,false,8,some [.pointer none]⟩),
 (137,⟨.other,1,false,0,none⟩),
 (139,⟨.other,1,false,0,none⟩),
 (141,⟨.other,1,false,8,some [.nilFunc]⟩),
 (142,⟨.other,1,false,8,some [.nilFunc]⟩),
 (145,⟨.struct [(0,1,false),(1,1,false),(2,1,false),(3,1,false),(4,8,true)],12,true,104,some [.slice none 0 0,.slice none 0 0,.slice none 0 0,.slice none 0 0,.int .u8 0,.int .u8 0,.int .u8 0,.int .u8 0,.int .u8 0,.int .u8 0,.int .u8 0,.int .u8 0]⟩),
 (146,⟨.other,1,false,0,none⟩),
 (148,⟨.ptr 92,1,false,8,some [.pointer none]⟩),
 (149,⟨.slice 90 1,1,false,24,some [.slice none 0 0]⟩),
 (165,⟨.ptr 235,1,false,8,some [.pointer none]⟩),
 (167,⟨.other,1,false,8,some [.nilFunc]⟩),
 (172,⟨.other,1,false,8,some [.nilFunc]⟩),
 (173,⟨.other,1,false,8,some [.nilFunc]⟩),
 (186,⟨.int .u64,1,false,8,some [.int .u64 0]⟩),
 (190,⟨.other,1,false,8,some [.nilFunc]⟩),
 (192,⟨.other,1,false,0,none⟩),
 (195,⟨.other,1,false,8,some [.nilFunc]⟩),
 (198,⟨.array 256 4 1 false,256,true,256,some (List.replicate 256 (.bool false))⟩),
 (199,⟨.other,1,false,8,some [.nilFunc]⟩),
 (200,⟨.other,1,false,8,some [.nilFunc]⟩),
 (202,⟨.ptr 209,1,false,8,some [.pointer none]⟩),
 (203,⟨.int .u32,1,false,4,some [.int .u32 0]⟩),
 (204,⟨.int .u32,1,false,4,some [.int .u32 0]⟩),
 (205,⟨.array 8 204 1 false,8,true,32,some (List.replicate 8 (.int .u32 0))⟩),
 (206,⟨.array 24 80 7 true,168,true,384,some zxL⟩),
 (207,⟨.array 24 204 1 false,24,true,96,some (List.replicate 24 (.int .u32 0))⟩),
 (209,⟨.struct [(0,1,false),(1,8,true),(9,8,true),(17,1,false),(18,1,false),(19,168,true),(187,24,true),(211,24,true),(235,24,true)],259,true,736,some zoU⟩),
 (211,⟨.other,1,false,8,some [.nilFunc]⟩),
 (215,⟨.other,1,false,0,none⟩),
 (218,⟨.other,1,false,8,some [.nilFunc]⟩),
 (219,⟨.other,1,false,8,some [.nilFunc]⟩),
 (221,⟨.other,1,false,0,none⟩),
 (232,⟨.map 300 237,1,false,8,some [.map none]⟩),
 (233,⟨.map 5 167,1,false,8,some [.map none]⟩),
 (235,⟨.struct [(0,1,false),(1,1,false)],2,true,16,some [.map none,.map none]⟩),
 (237,⟨.struct [(0,1,false),(1,1,false)],2,true,2,some [.bool false,.bool false]⟩),
 (239,⟨.other,1,false,0,none⟩),
 (244,⟨.other,1,false,8,some [.nilFunc]⟩),
 (246,⟨.other,1,false,0,none⟩),
 (250,⟨.slice 40 1,1,false,24,some [.slice none 0 0]⟩),
 (255,⟨.slice 260 3,1,false,24,some [.slice none 0 0]⟩),
 (256,⟨.other,1,false,0,none⟩),
 (258,⟨.int .u8,1,false,1,some [.int .u8 0]⟩),
 (260,⟨.struct [(0,1,false),(1,1,false),(2,1,false)],3,true,32,some [.int .u8 0,.string ByteArray.empty,.int .i64 0]⟩),
 (263,⟨.struct [(0,10,true),(10,1,false),(11,1,false)],12,true,32,some [.int .u8 0,.int .u8 0,.int .u8 0,.bool false,.int .u8 0,.bool false,.int .u8 0,.int .u8 0,.int .u8 0,.int .u8 0,.int .i64 0,.int .i64 0]⟩),
 (264,⟨.slice 31 1,1,false,24,some [.slice none 0 0]⟩),
 (267,⟨.ptr 27,1,false,8,some [.pointer none]⟩),
 (278,⟨.other,1,false,8,some [.nilFunc]⟩),
 (279,⟨.other,1,false,8,some [.nilFunc]⟩),
 (282,⟨.other,1,false,8,some [.nilFunc]⟩),
 (284,⟨.other,1,false,8,some [.nilFunc]⟩),
 (287,⟨.slice 204 1,1,false,24,some [.slice none 0 0]⟩),
 (300,⟨.struct [(0,1,false),(1,1,false),(2,1,false)],3,true,24,some [.pointer none,.int .i64 0,.int .i64 0]⟩),
 (301,⟨.other,1,false,0,none⟩),
 (303,⟨.other,1,false,0,none⟩),
 (305,⟨.slice 76 49,1,false,24,some [.slice none 0 0]⟩),
 (309,⟨.ptr 311,1,false,8,some [.pointer none]⟩),
 (311,⟨.struct [(0,333,true),(333,49,true),(382,49,true),(431,49,true)],480,true,3592,some zxK⟩),
 (313,⟨.other,1,false,8,some [.nilFunc]⟩),
 (315,⟨.struct [(0,1,false)],1,true,8,some [.nilFunc]⟩),
 (316,⟨.array 7 315 1 true,7,true,56,some (List.replicate 7 (.nilFunc))⟩),
 (319,⟨.int .i64,1,false,8,some [.int .i64 0]⟩),
 (320,⟨.other,1,false,0,none⟩),
 (329,⟨.struct [(0,1,false),(1,1,false)],2,true,24,some [.string ByteArray.empty,.int .i64 0]⟩),
 (331,⟨.struct [(0,2,true),(2,1,false)],3,true,32,some [.string ByteArray.empty,.int .i64 0,.bool false]⟩),
 (332,⟨.other,1,false,8,some [.nilFunc]⟩),
 (333,⟨.other,1,false,8,some [.nilFunc]⟩),
 (337,⟨.ptr 263,1,false,8,some [.pointer none]⟩),
 (370,⟨.other,1,false,0,none⟩),
 (374,⟨.int .u64,1,false,8,some [.int .u64 0]⟩),
 (378,⟨.ptr 3,1,false,8,some [.pointer none]⟩),
 (380,⟨.ptr 331,1,false,8,some [.pointer none]⟩),
 (381,⟨.other,1,false,8,some [.nilFunc]⟩),
 (382,⟨.other,1,false,0,none⟩),
 (385,⟨.array 9 5 1 false,9,true,9,some (List.replicate 9 (.int .u8 0))⟩),
 (393,⟨.array 64 5 1 false,64,true,64,some (List.replicate 64 (.int .u8 0))⟩),
 (396,⟨.other,1,false,8,some [.nilFunc]⟩),
 (397,⟨.array 9 396 1 false,9,true,72,some (List.replicate 9 (.nilFunc))⟩),
 (399,⟨.array 32 5 1 false,32,true,32,some (List.replicate 32 (.int .u8 0))⟩),
 (400,⟨.ptr 374,1,false,8,some [.pointer none]⟩),
 (401,⟨.other,1,false,0,none⟩),
 (405,⟨.ptr 329,1,false,8,some [.pointer none]⟩),
 (406,⟨.other,1,false,8,some [.nilFunc]⟩),
 (410,⟨.other,1,false,0,none⟩)]
theorem tk{P:Program}{t:Nat}{i:TI}(h1:(P.info? t).map (fun x=>(x.size,x.bytes))=some (i.size,i.bytes):=by kernel_rfl)
  (h2:∀z,i.zero=some z->((P.info? t).bind (fun x=>x.zero)).map (fun v=>v.cells.toList)=some z:=by intro z h;cases h;first | done | kernel_rfl) (h3:ztw P t i=true:=by kernel_rfl):TIok P t i:=zyp h1 h2 h3
theorem jB:TTok PG tt :=
 .cons tk (
 .cons tk (
 .cons tk (
 .cons tk (
 .cons tk (
 .cons tk (
 .cons tk (
 .cons tk (
 .cons tk (
 .cons tk (
 .cons tk (
 .cons tk (
 .cons tk (
 .cons tk (
 .cons tk (
 .cons tk (
 .cons tk (
 .cons tk (
 .cons tk (
 .cons tk (
 .cons tk (
 .cons tk (
 .cons tk (
 .cons tk (
 .cons tk (
 .cons tk (
 .cons tk (
 .cons tk (
 .cons tk (
 .cons tk (
 .cons tk (
 .cons tk (
 .cons tk (
 .cons tk (
 .cons tk (
 .cons tk (
 .cons tk (
 .cons tk (
 .cons tk (
 .cons tk (
 .cons tk (
 .cons tk (
 .cons tk (
 .cons tk (
 .cons tk (
 .cons tk (
 .cons tk (
 .cons tk (
 .cons tk (
 .cons tk (
 .cons tk (
 .cons tk (
 .cons tk (
 .cons tk (
 .cons tk (
 .cons tk (
 .cons tk (
 .cons tk (
 .cons tk (
 .cons tk (
 .cons tk (
 .cons tk (
 .cons tk (
 .cons tk (
 .cons tk (
 .cons tk (
 .cons tk (
 .cons tk (
 .cons tk (
 .cons tk (
 .cons tk (
 .cons tk (
 .cons tk (
 .cons tk (
 .cons tk (
 .cons tk (
 .cons tk (
 .cons tk (
 .cons tk (
 .cons tk (
 .cons tk (
 .cons tk (
 .cons tk (
 .cons tk (
 .cons tk (
 .cons tk (
 .cons tk (
 .cons tk (
 .cons tk (
 .cons tk (
 .cons tk (
 .cons tk (
 .cons tk (
 .cons tk (
 .cons tk (
 .cons tk (
 .cons tk (
 .cons tk (
 .cons tk (
 .cons tk (
 .cons tk (
 .cons tk (
 .cons tk (
 .cons tk (
 .cons tk (
 .cons tk (
 .cons tk (
 .cons tk (
 .cons tk (
 .cons tk (
 .cons tk (
 .cons tk (
 .cons tk (
 .cons tk (
 .cons tk (
 .cons tk (
 .cons tk (
 .cons tk (
 .cons tk (
 .cons tk (
 .cons tk (
 .cons tk (
 .cons tk (
 .cons tk (
 .cons tk (
 .cons tk (
 .cons tk (
 .cons tk (
 .cons tk (
 .cons tk (
 .cons tk (
 .cons tk (
 .cons tk (
 .cons tk (
 .cons tk (
 .cons tk (
 .cons tk (
 .cons tk (
 .nil))))))))))))))))))))))))))))))))))))))))))))))))))))))))))))))))))))))))))))))))))))))))))))))))))))))))))))))))))))))))))))))))))))))))))
theorem zxt:ztJ PG 3 365 [180,182,249,250,252,334,335,336,337,338,339,340,341,342,343,344,345,346,347,348,349,350,351,352,353,354,355,356,357,358,359,360,361,362,363]=true:=by kernel_rfl
theorem mixed:Tryz.prog.follows .mixedOrders=true:=by kernel_rfl
@[reducible] noncomputable def sg (n:Nat):Sig:=⟨PG,tt,n,3,365,none,[180,182,249,250,252,334,335,336,337,338,339,340,341,342,343,344,345,346,347,348,349,350,351,352,353,354,355,356,357,358,359,360,361,362,363]⟩
theorem zgn(n:Nat):SigOk (sg n):=⟨fun t i h=>jB.get t i h,zxu zxt,mixed⟩
abbrev k0:=jB.get 0 _ rfl
abbrev k3:=jB.get 3 _ rfl
abbrev k4:=jB.get 4 _ rfl
abbrev k5:=jB.get 5 _ rfl
abbrev k9:=jB.get 9 _ rfl
abbrev k23:=jB.get 23 _ rfl
abbrev k27:=jB.get 27 _ rfl
abbrev k29:=jB.get 29 _ rfl
abbrev k32:=jB.get 32 _ rfl
abbrev k33:=jB.get 33 _ rfl
abbrev k40:=jB.get 40 _ rfl
abbrev k46:=jB.get 46 _ rfl
abbrev k48:=jB.get 48 _ rfl
abbrev k52:=jB.get 52 _ rfl
abbrev k66:=jB.get 66 _ rfl
abbrev k68:=jB.get 68 _ rfl
abbrev k72:=jB.get 72 _ rfl
abbrev k73:=jB.get 73 _ rfl
abbrev k76:=jB.get 76 _ rfl
abbrev k78:=jB.get 78 _ rfl
abbrev k80:=jB.get 80 _ rfl
abbrev k85:=jB.get 85 _ rfl
abbrev k89:=jB.get 89 _ rfl
abbrev k90:=jB.get 90 _ rfl
abbrev k92:=jB.get 92 _ rfl
abbrev zyG:=jB.get 100 _ rfl
abbrev zs3:=jB.get 101 _ rfl
abbrev zq8:=jB.get 120 _ rfl
abbrev zyF:=jB.get 121 _ rfl
abbrev zq7:=jB.get 145 _ rfl
abbrev zyE:=jB.get 149 _ rfl
abbrev zyD:=jB.get 165 _ rfl
abbrev zyC:=jB.get 173 _ rfl
abbrev zom:=jB.get 204 _ rfl
abbrev zyB:=jB.get 209 _ rfl
abbrev zyA:=jB.get 233 _ rfl
abbrev zs2:=jB.get 237 _ rfl
abbrev zu8:=jB.get 255 _ rfl
abbrev zmJ:=jB.get 260 _ rfl
abbrev zyz:=jB.get 263 _ rfl
abbrev zyy:=jB.get 300 _ rfl
abbrev zyx:=jB.get 309 _ rfl
abbrev zx1:=jB.get 316 _ rfl
abbrev zyw:=jB.get 331 _ rfl
abbrev zu7:=jB.get 374 _ rfl
abbrev zyv:=jB.get 397 _ rfl
abbrev CB (f:FuncId) (args:Array Value) (w:Wd) (v:Value):Prop:=Calls PG f args w fun e w'=>e = .returned v/\Below w.heap.size w w'
theorem qA(n:Nat)(args:List Value)(m:Mk){f:FuncId}{fn:Func}{c:Code}{w:Wd}{R:Ending->Wd->Prop}(hf:Tryz.prog.funcs[f]?=some fn)(h:wpM (sg n) m c ⟨zeV 0 args,[]⟩ w (zpk (sg n) fn R))(hb:fn.body=some c:=by rfl)(hn:fn.ntmps=n:=by rfl)(hle:args.length<=n:=by exact JQ rfl):Calls PG f args.toArray w R:=zoH (S:=sg n) (zgn _) m hf hb hn hle rfl h
theorem zD(n:Nat)(args:List Value){f:FuncId}{fn:Func}{c:Code}{w:Wd}{R:Ending->Wd->Prop}(hf:Tryz.prog.funcs[f]?=some fn)(h:wpE (sg n) c ⟨zeV 0 args,[]⟩ w (zpk (sg n) fn R))(hb:fn.body=some c:=by rfl)(hn:fn.ntmps=n:=by rfl)(hle:args.length<=n:=by exact JQ rfl):Calls PG f args.toArray w R:=zoI (S:=sg n) (zgn _) hf hb hn hle rfl h
end Go.Proofs.YtakcdebpklffiaaGreatDoor
namespace Go.Proofs.YtakcdebpklffiaaGreatDoor
open Go.Vc Go.RowKit Go.Sei
def zgU (x y:UInt8):Int:=if x.toNat<y.toNat then -1 else if y.toNat<x.toNat then 1 else 0
def jS:List UInt8->List UInt8->Int
 | [],[]=>0
 | [],_::_ => -1
 | _::_,[]=>1
 | x::r,y::s=>if x=y then jS r s else zgU x y
def zS:Enc UInt8:=⟨fun b=>[u8 b],1,fun _=>rfl,by decide,fun a u hu=>by
 simp only[UA,Qs,Gk] at hu;subst hu;rfl⟩
theorem zp9{w:Wd}{p:OA}{l:List UInt8}(h:SlR zS w p l){k:Nat}(hk:k<l.length):∃b o,p=some ⟨b,o,none⟩/\b<w.heap.size/\w.cell? ⟨b,o+k*1,none⟩=some (u8 l[k]):=by
 obtain⟨b,o,rfl,a,c⟩:=h.at hk;exact⟨b,o,rfl,a,zbd (c k hk)⟩
theorem zku:∀(l1 l2:List UInt8) (k:Nat),k<=l1.length->k<=l2.length->l1.take k=l2.take k->jS l1 l2=jS (l1.drop k) (l2.drop k)
 | l1,l2,0,_,_,_=>by simp
 | [],_,k+1,h,_,_=>by simp at h
 | _::_,[],k+1,_,h,_=>by simp at h
 | x::r,y::s,k+1,h1,h2,h3=>by
  simp at h1 h2 h3;rw[jS,Gn h3.1,List.drop_succ_cons,List.drop_succ_cons];exact zku r s k h1 h2 h3.2
theorem zp7{x y:UInt8}(h:x≠y):zgU x y≠0:=by
 have:x.toNat≠y.toNat:=fun e=>h (Ud.1 e);unfold zgU;split
 ·decide
 ·split
  ·decide
  ·omega
theorem zrq(x:UInt8):zgU x x=0:=by simp[zgU]
theorem zvQ{x y:UInt8}:zgU x y<0↔x.toNat<y.toNat:=by
 unfold zgU;split
 ·simp_all
 ·split
  ·simp;omega
  ·simp;omega
theorem zgT:∀l,jS l l=0
 | []=>rfl
 | x::r=>by rw [jS,Gn rfl];exact zgT r
theorem zb9{x y:UInt8}{r s:List UInt8}:jS (x::r) (y::s)<0↔x.toNat<y.toNat\/(x=y/\jS r s<0):=by
 rw[jS];split
 ·rename_i h;subst h;simp
 ·rename_i h;rw[zvQ];simp[h]
theorem zfm:∀l1 l2,jS l1 l2<0\/jS l2 l1<0\/l1=l2
 | [],[]=>by simp
 | [],_::_ => .inl (by simp [jS])
 | _::_,[] => .inr (.inl (by simp [jS]))
 | x::r,y::s=>by
  rw[zb9,zb9];rcases Nat.lt_trichotomy x.toNat y.toNat with h | h | h
  ·exact .inl (.inl h)
  ·have e:x=y:=Ud.1 h;subst e;rcases zfm r s with h | h | h
   ·exact .inl (.inr ⟨rfl,h⟩)
   ·exact .inr (.inl (.inr ⟨rfl,h⟩))
   ·exact .inr (.inr (by rw[h]))
  ·exact .inr (.inl (.inl h))
theorem zjg:∀l1 l2 l3,jS l1 l2<0->jS l2 l3<0->jS l1 l3<0
 | [],[],_,h,_=>by simp [jS] at h
 | _::_,[],_,h,_=>by simp [jS] at h
 | [],_::_,[],_,h=>by simp [jS] at h
 | [],_::_,_::_,_,_=>by simp [jS]
 | _::_,_::_,[],_,h=>by simp [jS] at h
 | x::r,y::s,z::t,b,a=>by
  rw[zb9] at *;rcases b with b | ⟨rfl,b⟩
  ·rcases a with a | ⟨rfl,a⟩
   ·exact .inl (by omega)
   ·exact .inl b
  ·rcases a with a | ⟨rfl,a⟩
   ·exact .inl a
   ·exact .inr ⟨rfl,zjg r s t b a⟩
theorem znm:∀{a b c d:List UInt8},a.length=b.length->jS (a++c) (b++d)=if a=b then jS c d else jS a b
 | [],[],_,_,_=>by simp
 | [],_::_,_,_,h=>by simp at h
 | _::_,[],_,_,h=>by simp at h
 | x::r,y::s,c,d,h=>by
  rw[Qi,Qi,jS,jS];by_cases f:x=y
  ·subst f;rw[Gn rfl,Gn rfl,znm (by simpa using h)];by_cases g:r=s
   ·rw[Gn g,Gn (by rw[g])]
   ·rw[Gm g,Gm (fun e=>g (List.cons.inj e).2)]
  ·rw[Gm f,Gm f,Gm (fun e=>f (List.cons.inj e).1)]
theorem zkt{a b:List UInt8}:jS a b=0↔a=b:=by
 constructor
 ·intro h;rcases zfm a b with c | c | c
  ·omega
  ·have d:jS a b<0\/¬jS a b<0:=Decidable.em _
   exfalso
   clear d
   revert c h
   induction a generalizing b with
   | nil=>cases b with
    | nil=>simp [jS]
    | cons y s=>simp [jS]
   | cons x r ih=>cases b with
    | nil=>simp [jS]
    | cons y s =>
     rw[jS,zb9];by_cases e:x=y
     ·subst e;rw[Gn rfl];rintro h (c | ⟨_,c⟩)
      ·omega
      ·exact ih h c
     ·rw[Gm e];exact fun h=>Gp h (zp7 e)
  ·exact c
 ·rintro rfl;exact zgT _
structure FinV where
 l:List UInt8
 len:l.length=38
 deriving DecidableEq
instance:Inhabited FinV:=⟨⟨List.replicate 38 0,by simp⟩⟩
theorem FinV.ext'{a b:FinV}(h:a.l=b.l):a=b:=by cases a;cases b;cases h;rfl
def zx:Enc FinV:=⟨fun f=>f.l.map u8,38,fun f=>by rw[QJ,f.len],by decide,fun f u hu=>by
 obtain⟨b,_,rfl⟩:=UI.1 hu;rfl⟩
def FinV.reg (f:FinV) (t r:Nat):UInt8:=f.l.getD (t*8+r) 0
def FinV.mem (f:FinV) (i:Nat):UInt8:=f.l.getD (32+i) 0
def zgA (a b:FinV):Int:=jS a.l b.l
def ltF (a b:FinV):Bool:=decide (zgA a b<0)
theorem zfN(a:FinV):ltF a a=false:=Ue (by unfold zgA;rw[zgT];decide)
theorem zez{a b c:FinV}(h1:ltF a b=true)(h2:ltF b c=true):ltF a c=true:=Up (zjg _ _ _ (dT h1) (dT h2))
theorem zgG(a b:FinV):ltF a b=true\/ltF b a=true\/a=b:=by
 rcases zfm a.l b.l with h | h | h
 ·exact .inl (Up h)
 ·exact .inr (.inl (Up h))
 ·exact .inr (.inr (FinV.ext' h))
theorem zmF{a b:FinV}(h:ltF a b=true):ltF b a=false:=by
 cases h2:ltF b a with
 | false=>rfl
 | true=>have:=zez h h2;rw [zfN] at this;cases this
def leF (a b:FinV):Bool := !ltF b a
theorem zka(a b c:FinV)(h1:leF a b=true)(h2:leF b c=true):leF a c=true:=by
 unfold leF at *;rw[KI] at *
 cases h:ltF c a with
 | false=>rfl
 | true =>
  rcases zgG a b with d | d | rfl
  ·have:=zez h d;rw[this] at h2;cases h2
  ·rw[d] at h1;cases h1
  ·rw[h] at h2;cases h2
theorem zq3(a b:FinV):(leF a b||leF b a)=true:=by
 unfold leF
 cases h:ltF b a with
 | false=>rfl
 | true=>rw [zmF h];rfl
def zb4:List FinV->List FinV
 | []=>[]
 | a::r=>match zb4 r with
  | []=>[a]
  | b::s=>if a=b then b::s else a::b::s
def zh2 (l:List FinV):List FinV:=l.mergeSort leF
def zbx (l:List FinV):List FinV:=zb4 (zh2 l)
abbrev Inc (l:List FinV):Prop:=l.Pairwise fun a b=>ltF a b=true
theorem zjd{x:FinV}:∀{l:List FinV},x∈zb4 l↔x∈l
 | []=>Iff.rfl
 | a::r=>by
  have c:=zjd (x:=x) (l:=r);unfold zb4
  cases h:zb4 r with
  | nil=>rw [h] at c;simp only [UA,<- c]
  | cons b s =>
   rw[h] at c;dsimp only
   split
   ·rename_i e;subst e;rw[UA,UA,<- c,UA];constructor
    ·exact fun h => .inr h
    ·rintro(h | h)
     ·exact .inl h
     ·exact h
   ·rw[UA,c,UA]
theorem znf:∀{l:List FinV},l.Pairwise (fun a b=>leF a b=true)->Inc (zb4 l)
 | [],_=>List.Pairwise.nil
 | a::r,h=>by
  obtain⟨k,j⟩:=List.pairwise_cons.1 h;have c:=znf j;have i:=fun x=>zjd (x:=x) (l:=r);unfold zb4
  cases e:zb4 r with
  | nil=>exact List.pairwise_singleton _ _
  | cons b s =>
   rw[e] at c i;dsimp only
   split
   ·exact c
   ·rename_i g;refine List.pairwise_cons.2 ⟨fun x f=>?_,c⟩;have d:=k b ((i b).1 (KA ..));have hlt:ltF a b=true:=by
     unfold leF at d;rw[KI] at d;rcases zgG a b with h | h | h
     ·exact h
     ·rw[h] at d;cases d
     ·exact Gp h g
    rcases UA.1 f with rfl | f
    ·exact hlt
    ·exact zez hlt ((List.pairwise_cons.1 c).1 x f)
theorem zlZ(l:List FinV):(zh2 l).Pairwise (fun a b=>leF a b=true):=List.pairwise_mergeSort zka zq3 l
theorem zse{x:FinV}{l:List FinV}:x∈zh2 l↔x∈l:=(List.mergeSort_perm l leF).mem_iff
theorem zgk(l:List FinV):Inc (zbx l):=znf (zlZ l)
theorem zca{x:FinV}{l:List FinV}:x∈zbx l↔x∈l:=zjd.trans zse
theorem zfd:∀{a b:List FinV},Inc a->Inc b->(∀x,x∈a↔x∈b)->a=b
 | [],[],_,_,_=>rfl
 | [],y::s,_,_,h=>Gp ((h y).2 (KA ..)) (by simp)
 | x::r,[],_,_,h=>Gp ((h x).1 (KA ..)) (by simp)
 | x::r,y::s,ha,hb,h=>by
  obtain⟨f,k⟩:=List.pairwise_cons.1 ha;obtain⟨i,l⟩:=List.pairwise_cons.1 hb;have e:x=y:=by
   rcases UA.1 ((h x).1 (KA ..)) with e | o
   ·exact e
   ·rcases UA.1 ((h y).2 (KA ..)) with e | m
    ·exact e.symm
    ·have n:=i x o;have g:=f y m;rw[zmF n] at g;cases g
  subst e;have j:r=s:=zfd k l fun z=>by
   constructor
   ·intro d;rcases UA.1 ((h z).1 (JV _ d)) with e | c
    ·subst e;have:=f z d;rw[zfN] at this;cases this
    ·exact c
   ·intro d;rcases UA.1 ((h z).2 (JV _ d)) with e | c
    ·subst e;have:=i z d;rw[zfN] at this;cases this
    ·exact c
  rw[j]
theorem zra{a:List FinV}(h:Inc a):a.Nodup:=h.imp fun b e=>by subst e;rw[zfN] at b;cases b
theorem zh5{a:List FinV}(h:Inc a):zbx a=a:=zfd (zgk a) h fun x=>zca
end Go.Proofs.YtakcdebpklffiaaGreatDoor
namespace Go.Sei
def zhb (c:UInt8):Bool:=(decide ((97:Int)<=c.toNat)&&decide ((c.toNat:Int)<=122))||(decide ((65:Int)<=c.toNat)&&decide ((c.toNat:Int)<=90))
def ziR (c:UInt8):Bool:=decide ((48:Int)<=c.toNat)&&decide ((c.toNat:Int)<=57)
def eqB (c:UInt8) (k:Int):Bool:=decide ((c.toNat:Int)=k)
def zpB (c:UInt8):Bool:=eqB c 61||(eqB c 43||(eqB c 45||(eqB c 94||(eqB c 38||(eqB c 124||(eqB c 33||(eqB c 40||(eqB c 41||(eqB c 58||eqB c 60)))))))))
def qF (c:UInt8):Nat :=
 bif zhb c then 3 else bif ziR c then 4 else bif eqB c 32||eqB c 9 then 1 else bif eqB c 10 then 2 else bif eqB c 95 then 5 else bif eqB c 35 then 7 else bif zpB c then 6 else 0
def qV (c:UInt8):Bool:=decide (qF c=3)||(decide (qF c=4)||decide (qF c=5))
def j8 (p:UInt8->Bool):List UInt8->Nat
 | []=>0
 | c::r=>if p c then j8 p r+1 else 0
theorem zl9(p:UInt8->Bool):∀l,j8 p l<=l.length
 | []=>UW _
 | c::r=>by
  unfold j8
  split
  ·exact Nat.succ_le_succ (zl9 p r)
  ·exact UZ _
def zlD (c:UInt8):Bool:=decide (qF c=1)
def zeS (c:UInt8):Bool := !decide (qF c=2)
def zbX (c:UInt8):Bool:=decide (qF c=4)
def zcN (s:List UInt8) (a:Nat):Nat:=a+j8 zlD (s.drop a)
def zL (s:List UInt8) (a:Nat):Nat :=
 match s[zcN s a]? with
 | some c=>if qF c=7 then zcN s a+j8 zeS (s.drop (zcN s a)) else zcN s a
 | none=>zcN s a
structure Tok where
 kind:UInt8
 text:List UInt8
 pos:Nat
 deriving DecidableEq
def zbv (s:List UInt8) (a:Nat) (c:UInt8):Nat :=
 if qF c=3 then a+1+j8 qV (s.drop (a+1)) else if qF c=4 then a+1+j8 zbX (s.drop (a+1)) else
  if(eqB c 61||eqB c 33)&&decide (s[a+1]?=some 61) then a+2 else a+1
def zha (c:UInt8):UInt8:=if qF c=3 then 1 else if qF c=4 then 2 else 3
def zlW (s:List UInt8) (a:Nat) (c:UInt8):Tok:=⟨zha c,(s.drop a).take (zbv s a c-a),a⟩
def zar (s:List UInt8) (a:Nat):Bool:=match s[a]? with
 | some c=>decide (qF c=2)
 | none=>true
def zaO (s:List UInt8):Nat->Nat->Bool->Option (Tok×Nat×Bool)
 | 0,_,_=>none
 | f+1,a,op=>match s[zL s a]? with
  | some c=>if qF c=2 then (if op then some (⟨4,[],zL s a⟩,min (zL s a+1) s.length,false) else zaO s f (min (zL s a+1) s.length) false)
   else some (zlW s (zL s a) c,zbv s (zL s a) c,true)
  | none=>if op then some (⟨4,[],zL s a⟩,min (zL s a+1) s.length,false) else none
def zc2 (s:List UInt8):Nat->Nat->Bool->List Tok
 | 0,_,_=>[]
 | f+1,a,op=>match zaO s (s.length+2) a op with
  | some (t,a',op')=>t::zc2 s f a' op'
  | none=>[]
def zlb (s:List UInt8):Bool:=decide (1<=s.length)&&(decide (s.length<=3)&&(!(decide (s.head?=some 48)&&decide (1<s.length))&&(s.all zbX&&decide (s.foldl (fun v c=>10*v+(c.toNat-48)) 0<=255))))
def jI (t:Tok):Int :=
 if t.kind=1 then(if 16<t.text.length then 42 else 0) else if t.kind=2 then(if zlb t.text then 0 else 41) else
 if t.kind=3 then(match t.text with | c::_=>if qF c=6 then 0 else 40 | []=>0) else 0
def jm (s:List UInt8):List Tok:=zc2 s (2*s.length+3) 0 false
def zr2 (l:List Tok) (s:List UInt8):Bool:=match l with
 | [t,_]=>decide (t.kind=1)&&decide (t.text=s)
 | _=>false
def zeC (s:List UInt8):Bool:=decide (s.length<=16384)&&((jm s).all (fun t=>decide (jI t=0))&&zr2 (jm s) s)
structure InsD where
 op:UInt8
 dst:UInt8
 loc:UInt8
 ar:Bool
 an:UInt8
 br:Bool
 bn:UInt8
 fn:UInt8
 mode:UInt8
 skip:UInt8
 deriving DecidableEq
inductive Cnd where
 | mk (kind thread n val:UInt8) (kids:List Cnd)
def Cnd.kind:Cnd->UInt8 | .mk k _ _ _ _=>k
def Cnd.thread:Cnd->UInt8 | .mk _ t _ _ _=>t
def Cnd.n:Cnd->UInt8 | .mk _ _ n _ _=>n
def Cnd.val:Cnd->UInt8 | .mk _ _ _ v _=>v
def Cnd.kids:Cnd->List Cnd | .mk _ _ _ _ l=>l
structure Prg where
 name:List UInt8
 locs:List (List UInt8)
 init:List UInt8
 threads:List (List InsD)
 ask:UInt8
 cond:Cnd
def zwm:List (List UInt8):=[[116,101,115,116],[105,110,105,116],[116,104,114,101,97,100],[115,111,109,101],[110,111,110,101],[97,108,108],[97,99,113],[114,101,108],[115,119,97,112],[102,101,116,99,104],[99,97,115],
 [102,101,110,99,101],[108,111,97,100,115],[115,116,111,114,101,115],[115,107,105,112],[105,102],[116,114,117,101]]
def ziQ (s:List UInt8):Bool:=zwm.any fun k=>decide (s=k)
def jk (s:List UInt8):Nat:=(s.filter zbX).length
def zd3 (s:List UInt8):Bool:=match s with
 | []=>false
 | c::r=>decide (r.length+1<=16)&&(decide (qF c=3)&&(!ziQ (c::r)&&(r.all qV&&(!decide (c=114)||(decide (jk r=0)||decide (jk r<r.length))))))
def zdA:List (List UInt8)->List (List UInt8)->Bool
 | _,[]=>true
 | pre,s::r=>zd3 s&&(!(pre.any fun q=>decide (q=s))&&zdA (pre++[s]) r)
def zd6 (p:Prg):Bool:=decide (1<=p.locs.length)&&(decide (p.locs.length<=6)&&(decide (p.init.length=p.locs.length)&&zdA [] p.locs))
def zfI:List UInt8:=[0,35,38,29,7,7,15,32,92]
def jW (op bit:UInt8):Bool := !decide (zfI.getD op.toNat 0&&&bit=0)
def zhH (x:InsD):InsD where
 op:=x.op
 dst:=if jW x.op 1 then x.dst else 0
 loc:=if jW x.op 2 then x.loc else 0
 ar:=jW x.op 4&&x.ar
 an:=if jW x.op 4 then x.an else 0
 br:=jW x.op 8&&x.br
 bn:=if jW x.op 8 then x.bn else 0
 fn:=if jW x.op 16 then x.fn else 0
 mode:=if jW x.op 32 then x.mode else 0
 skip:=if jW x.op 64 then x.skip else 0
def zfK (x:InsD):Bool:=if x.op=1 then decide (x.mode=0)||decide (x.mode=1) else if x.op=2 then decide (x.mode=0)||decide (x.mode=2) else
 if x.op=7 then decide (x.mode=3)||(decide (x.mode=4)||decide (x.mode=5)) else true
def fnL (x:InsD):Bool:=if x.op=3 then decide (x.fn=1)||(decide (x.fn=2)||decide (x.fn=3)) else if x.op=8 then decide (x.fn=4)||(decide (x.fn=5)||decide (x.fn=6)) else true
def zlG (r:Bool) (n:UInt8):Bool := !r||decide (n.toNat<8)
def jg (x:InsD) (locs after:Nat):List Bool:=[
 decide (1<=x.op.toNat)&&decide (x.op.toNat<=8),
 decide (x=zhH x),
 decide (x.dst.toNat<8),
 !jW x.op 2||decide (x.loc.toNat<locs),
 zlG x.ar x.an&&zlG x.br x.bn,
 zfK x,
 fnL x,
 !jW x.op 64||(decide (1<=x.skip.toNat)&&decide (x.skip.toNat<=after))]
def zjD (x:InsD) (locs after:Nat):Bool:=(jg x locs after).all id
def qI (l:List InsD) (locs:Nat):Bool:=decide (l.length<=12)&&(List.range l.length).all fun i=>match l[i]? with
 | some x=>zjD x locs (l.length-1-i)
 | none=>true
def zaQ (threads locs:Nat):Nat->Cnd->Bool
 | 0,_=>false
 | d+1,.mk k t n v kids =>
  let bare:=decide (t=0)&&(decide (n=0)&&decide (v=0))
  if k=0 then bare&&decide (kids.length=0) else
  if k=1 then decide (t.toNat<threads)&&(decide (n.toNat<8)&&decide (kids.length=0)) else
  if k=2 then decide (n.toNat<locs)&&(decide (t=0)&&decide (kids.length=0)) else
  if k=3\/k=4 then bare&&(decide (2<=kids.length)&&kids.all (zaQ threads locs d)) else
  if k=5 then bare&&(decide (kids.length=1)&&kids.all (zaQ threads locs d)) else false
def zbp (p:Prg):Bool:=zeC p.name&&(zd6 p&&((decide (1<=p.threads.length)&&(decide (p.threads.length<=4)&&p.threads.all fun l=>decide (l.length<=12))) &&
 (p.threads.all (fun l=>qI l p.locs.length)&&((decide (p.ask=1)||(decide (p.ask=2)||decide (p.ask=3)))&&zaQ p.threads.length p.locs.length 20 p.cond))))
end Go.Sei
namespace Go.Proofs.YtakcdebpklffiaaGreatDoor
open Go.Vc Go.RowKit Go.Sei
def bs (l:List UInt8):ByteArray:=⟨l.toArray⟩
def qH (l:List UInt8):Value := .string (bs l)
theorem zvX(l:List UInt8):(bs l).data.toList=l:=rfl
theorem jj(x y:Operand)(a b:List UInt8)(w:Wd):(do eqGuard .eql 9 x y (qH a) (qH b);binOp .eql 9 (qH a) (qH b)).run PG w = .ok (.bool (decide (a=b))) w:=by
 have c:(eqGuard .eql 9 x y (qH a) (qH b)).run PG w = .ok () w:=rfl;rw[US,c,KZ];show(Op.stringOp .eql (bs a) (bs b)).run PG w=_;simp only[Op.stringOp,UT,ByteArray.toList_eq,zvX];have d:(a == b)=decide (a=b):=by by_cases h:a=b <;> simp[h]
 rw[d]
end Go.Proofs.YtakcdebpklffiaaGreatDoor
namespace Go.Vc
open Go.RowKit
theorem brT{P Q:Prop}(h:P):(true=true->P)/\(true=false->Q):=⟨fun _=>h,fun h=>nomatch h⟩
theorem brF{P Q:Prop}(h:Q):(false=true->P)/\(false=false->Q):=⟨fun h=>(nomatch h),fun _=>h⟩
theorem brE{b:Bool}{P Q:Prop}(e:b=true)(h:P):(b=true->P)/\(b=false->Q):=⟨fun _=>h,fun h=>nomatch e.symm.trans h⟩
theorem brN{b:Bool}{P Q:Prop}(e:b=false)(h:Q):(b=true->P)/\(b=false->Q):=⟨fun h=>(nomatch e.symm.trans h),fun _=>h⟩
theorem jp{w w2:Wd}{b o:Nat}{vs:List Value}(hs:w2.heap[b]?=w.heap[b]?)(h:zI w ⟨b,o,none⟩ vs):zI w2 ⟨b,o,none⟩ vs:=by
 refine zaD fun i v a=>?_;have:=zc h a;rw[<- this];unfold World.cell?;simp only[hs]
theorem jP{B:Nat}{w w2:Wd}{b o:Nat}{vs:List Value}(hb:Below B w w2)(hlt:b<B)(h:zI w ⟨b,o,none⟩ vs):zI w2 ⟨b,o,none⟩ vs :=
 jp (hb.block b hlt) h
def RowB {α:Type} (E:Enc α) (B:Nat) (w:Wd) (p:OA) (l:List α):Prop :=
 l=[]\/∃b o,p=some ⟨b,o,none⟩/\b<B/\zI w ⟨b,o,none⟩ (l.flatMap E.enc)
section
variable{α:Type}{E:Enc α}{B:Nat}{w w2:Wd}{p:OA}{l:List α}
theorem RowB.below(h:RowB E B w p l)(hb:Below B w w2):RowB E B w2 p l:=by
 rcases h with h | ⟨b,o,a,hlt,c⟩
 ·exact .inl h
 ·exact .inr ⟨b,o,a,hlt,jP hb hlt c⟩
theorem RowB.mono{B':Nat}(h:RowB E B w p l)(hB:B<=B'):RowB E B' w p l:=by
 rcases h with h | ⟨b,o,a,hlt,c⟩
 ·exact .inl h
 ·exact .inr ⟨b,o,a,by omega,c⟩
theorem RowB.slr(h:RowB E B w p l)(hB:B<=w.heap.size):SlR E w p l:=by
 rcases h with rfl | ⟨b,o,rfl,hlt,a⟩
 ·exact .nil
 ·exact SlR.of_cells (by omega) a
theorem RowB.of_slr(h:SlR E w p l):RowB E w.heap.size w p l:=by
 by_cases a:l=[]
 ·exact .inl a
 ·rcases h with h | ⟨b,o,rfl,hlt,c⟩
  ·exact Gp h a
  ·exact .inr ⟨b,o,rfl,hlt,SlR.cells (.inr ⟨b,o,rfl,hlt,c⟩)⟩
theorem RowB.get(h:RowB E B w p l):∃b o,(l.length=0\/p=some ⟨b,o,none⟩)/\∀i (hi:i<l.length),b<B/\zI w ⟨b,o+i*E.sz,none⟩ (E.enc l[i]):=by
 rcases h with rfl | ⟨b,o,rfl,hlt,a⟩
 ·exact⟨0,0,.inl rfl,fun i hi=>by simp at hi⟩
 ·exact⟨b,o,.inr rfl,fun i hi=>⟨hlt,by rw[<- zec l i hi];exact zP a⟩⟩
end
end Go.Vc
namespace Go.Proofs.YtakcdebpklffiaaGreatDoor
open Go.Vc Go.RowKit Go.Sei
def zgF:Enc (List UInt8):=⟨fun l=>[qH l],1,fun _=>rfl,by decide,fun a u hu=>by
 simp only[UA,Qs,Gk] at hu;subst hu;rfl⟩
def zU:Enc InsD:=⟨fun x=>[u8 x.op,u8 x.dst,u8 x.loc,.bool x.ar,u8 x.an,.bool x.br,u8 x.bn,u8 x.fn,u8 x.mode,u8 x.skip],10,fun _=>rfl,by decide,fun a u hu=>by
 simp only[UA,Qs,Gk] at hu;rcases hu with rfl | rfl | rfl | rfl | rfl | rfl | rfl | rfl | rfl | rfl <;> rfl⟩
abbrev zoO:=List InsD×OA×Nat
def znK (x:zoO):Value := .slice x.2.1 x.1.length x.2.2
def zr7:Enc zoO:=⟨fun x=>[znK x],1,fun _=>rfl,by decide,fun a u hu=>by
 simp only[UA,Qs,Gk] at hu;subst hu;rfl⟩
def zu (c:Cnd) (p:OA) (cap:Nat):List Value:=[u8 c.kind,u8 c.thread,u8 c.n,u8 c.val,.slice p c.kids.length cap]
inductive KidsV (B:Nat) (w:Wd):OA->List Cnd->Prop
 | mk (p:OA) (kids:List Cnd) (hn:kids.length*32<=140737488351232) (b o:Nat) (hp:kids.length=0\/p=some ⟨b,o,none⟩) (q:Nat->OA) (c:Nat->Nat)
   (hk:∀i (h:i<kids.length),b<B/\zI w ⟨b,o+i*5,none⟩ (zu kids[i] (q i) (c i)))
   (ht:∀i (h:i<kids.length),KidsV B w (q i) kids[i].kids):KidsV B w p kids
theorem KidsV.inv{B:Nat}{w:Wd}{p:OA}{kids:List Cnd}(h:KidsV B w p kids):kids.length*32<=140737488351232/\∃b o,(kids.length=0\/p=some ⟨b,o,none⟩) /\
  ∀i (h:i<kids.length),∃q c,b<B/\zI w ⟨b,o+i*5,none⟩ (zu kids[i] q c)/\KidsV B w q kids[i].kids:=by
 cases h with
 | mk _ _ hn b o hp q c hk ht=>exact⟨hn,b,o,hp,fun i a=>⟨q i,c i,(hk i a).1,(hk i a).2,ht i a⟩⟩
theorem KidsV.kept{B:Nat}{w w2:Wd}{p:OA}{kids:List Cnd}(h:KidsV B w p kids)(hb:Below B w w2):KidsV B w2 p kids:=by
 induction h with
 | mk p kids hn b o hp q c hk ht ih=>exact .mk p kids hn b o hp q c (fun i a=>⟨(hk i a).1,jP hb (hk i a).1 (hk i a).2⟩) ih
theorem KidsV.wider{B B':Nat}{w:Wd}{p:OA}{kids:List Cnd}(h:KidsV B w p kids)(hb:B<=B'):KidsV B' w p kids:=by
 induction h with
 | mk p kids hn b o hp q c hk ht ih=>exact .mk p kids hn b o hp q c (fun i a=>⟨nL (hk i a).1 hb,(hk i a).2⟩) ih
def ThrsV (B:Nat) (w:Wd) (p:OA) (l:List (List InsD)):Prop:=∃xs:List zoO,xs.map (·.1)=l/\RowB zr7 B w p xs/\∀x∈xs,RowB zU B w x.2.1 x.1
theorem ThrsV.below{B:Nat}{w w2:Wd}{p:OA}{l:List (List InsD)}(h:ThrsV B w p l)(hb:Below B w w2):ThrsV B w2 p l:=by
 obtain⟨d,c,a,b⟩:=h;exact⟨d,c,a.below hb,fun x e=>(b x e).below hb⟩
theorem ThrsV.mono{B B':Nat}{w:Wd}{p:OA}{l:List (List InsD)}(h:ThrsV B w p l)(hb:B<=B'):ThrsV B' w p l:=by
 obtain⟨d,c,a,b⟩:=h;exact⟨d,c,a.mono hb,fun x e=>(b x e).mono hb⟩
def zaw (p:Prg) (p1:OA) (c1:Nat) (p2:OA) (c2:Nat) (p3:OA) (c3:Nat) (p4:OA) (c4:Nat):List Value :=
 [qH p.name,.slice p1 p.locs.length c1,.slice p2 p.init.length c2,.slice p3 p.threads.length c3,u8 p.ask,u8 p.cond.kind,u8 p.cond.thread,u8 p.cond.n,u8 p.cond.val,.slice p4 p.cond.kids.length c4]
structure PrgLen (p:Prg):Prop where
 name:p.name.length<=140737488351232
 locs:p.locs.length<=140737488351232
 loc:∀s∈p.locs,s.length<=140737488351232
 init:p.init.length<=140737488351232
 threads:p.threads.length<=140737488351232
 thread:∀l∈p.threads,l.length<=140737488351232
structure PrgV (B:Nat) (w:Wd) (vs:List Value) (p:Prg):Prop where
 len:PrgLen p
 h:∃p1 c1 p2 c2 p3 c3 p4 c4,vs=zaw p p1 c1 p2 c2 p3 c3 p4 c4/\RowB zgF B w p1 p.locs/\RowB zS B w p2 p.init/\ThrsV B w p3 p.threads/\KidsV B w p4 p.cond.kids/\p.locs.length<=c1
theorem PrgV.below{B:Nat}{w w2:Wd}{vs:List Value}{p:Prg}(h:PrgV B w vs p)(hb:Below B w w2):PrgV B w2 vs p:=by
 obtain⟨j,d,o,m,a,b,n,f,e,k,i,l,c,g⟩:=h.h;exact⟨h.len,j,d,o,m,a,b,n,f,e,k.below hb,i.below hb,l.below hb,c.kept hb,g⟩
theorem PrgV.mono{B B':Nat}{w:Wd}{vs:List Value}{p:Prg}(h:PrgV B w vs p)(hb:B<=B'):PrgV B' w vs p:=by
 obtain⟨j,d,o,m,a,b,n,f,e,k,i,l,c,g⟩:=h.h;exact⟨h.len,j,d,o,m,a,b,n,f,e,k.mono hb,i.mono hb,l.mono hb,c.wider hb,g⟩
theorem PrgV.size{B:Nat}{w:Wd}{vs:List Value}{p:Prg}(h:PrgV B w vs p):vs.length=10:=by
 obtain⟨e,c,i,f,a,b,g,d,rfl,_⟩:=h.h;rfl
def i64 (n:Int):Value := .int .i64 n
theorem zax{off sz:Nat}{cs:List Value}{v:Value}{K:Value->Prop}(h:cs[off]?=some v)(k:K v):zfG off sz false cs K:=by
 unfold zfG;rw[h];exact k
def qP (f:FinV):Nat->Cnd->Bool
 | 0,_=>false
 | r+1,c =>
  if c.kind=0 then true
  else if c.kind=1 then decide (c.thread.toNat<4)&&(decide (c.n.toNat<8)&&decide (f.reg c.thread.toNat c.n.toNat=c.val))
  else if c.kind=2 then decide (c.n.toNat<6)&&decide (f.mem c.n.toNat=c.val)
  else if c.kind=3 then c.kids.all (qP f r)
  else if c.kind=4 then c.kids.any (qP f r)
  else if c.kind=5 then !c.kids.all (qP f r)
  else false
inductive KidsG (B:Nat) (w:Wd):OA->List Cnd->Prop
 | mk (p:OA) (kids:List Cnd) (hn:kids.length<=140737488351232) (g o:Nat)
   (hp:kids.length=0\/(p=some ⟨g,o,none⟩/\g<B/\∃(cs:Array Value) (t:TypeId),w.heap[g]?=some (.cells cs t (0,0)))) (q:Nat->OA) (c:Nat->Nat)
   (hk:∀i (h:i<kids.length),zI w ⟨g,o+i*5,none⟩ (zu kids[i] (q i) (c i)))
   (ht:∀i (h:i<kids.length),KidsG B w (q i) kids[i].kids):KidsG B w p kids
section
variable{B:Nat}{w w2:Wd}{p:OA}{kids:List Cnd}
theorem KidsG.inv(h:KidsG B w p kids):kids.length<=140737488351232/\∃g o,(kids.length=0\/(p=some ⟨g,o,none⟩/\g<B/\∃(cs:Array Value) (t:TypeId),w.heap[g]?=some (.cells cs t (0,0)))) /\
  ∀i (h:i<kids.length),∃q c,zI w ⟨g,o+i*5,none⟩ (zu kids[i] q c)/\KidsG B w q kids[i].kids:=by
 cases h with
 | mk _ _ hn g o hp q c hk ht=>exact⟨hn,g,o,hp,fun i a=>⟨q i,c i,hk i a,ht i a⟩⟩
theorem KidsG.by(hs:∀(g:Nat) (cs:Array Value) (t:TypeId),g<B->w.heap[g]?=some (.cells cs t (0,0))->w2.heap[g]?=w.heap[g]?)(h:KidsG B w p kids):KidsG B w2 p kids:=by
 induction h with
 | mk p kids hn g o a q c hk ht ih =>
  have same:kids.length≠0->w2.heap[g]?=w.heap[g]?:=fun b=>by
   rcases a with a | ⟨_,d,cs,t,e⟩
   ·exact Gp a b
   ·exact hs g cs t d e
  refine .mk p kids hn g o ?_ q c (fun i j=>jp (same (by omega)) (hk i j)) ih;rcases a with a | ⟨a,d,cs,t,e⟩
  ·exact .inl a
  ·by_cases b:kids.length=0
   ·exact .inl b
   ·exact .inr ⟨a,d,cs,t,(same b).trans e⟩
theorem KidsG.kept(h:KidsG B w p kids)(hb:Below B w w2):KidsG B w2 p kids:=h.by fun g b t a _=>hb.block g a
theorem KidsG.wider{B':Nat}(h:KidsG B w p kids)(hb:B<=B'):KidsG B' w p kids:=by
 induction h with
 | mk p kids hn g o hp q c hk ht ih=>exact .mk p kids hn g o (hp.imp id fun h=>⟨h.1,nL h.2.1 hb,h.2.2⟩) q c hk ih
end
theorem zkK{a b:UInt8}(h:u8 a=u8 b):a=b:=by
 unfold u8 at h;injection h with _ h;exact Ud.1 (by omega)
theorem Cnd.ext{a b:Cnd}(h1:a.kind=b.kind)(h2:a.thread=b.thread)(h3:a.n=b.n)(h4:a.val=b.val)(h5:a.kids=b.kids):a=b:=by
 cases a;cases b
 simp only[Cnd.kind,Cnd.thread,Cnd.n,Cnd.val,Cnd.kids] at h1 h2 h3 h4 h5;rw[h1,h2,h3,h4,h5]
theorem KidsG.det{B:Nat}{w:Wd}{p:OA}{a:List Cnd}(h:KidsG B w p a):∀{b:List Cnd},KidsG B w p b->a.length=b.length->a=b:=by
 induction h with
 | mk p kids hn g o l q c hk ht ih =>
  intro b hb hl;obtain⟨_,y,o2,d,u⟩:=hb.inv;apply List.ext_getElem hl;intro i x h2;obtain⟨q2,c2,m,n⟩:=u i h2;have e:g=y/\o=o2:=by
   rcases l with l | ⟨l,_,_⟩
   ·omega
   ·rcases d with d | ⟨d,_,_⟩
    ·omega
    ·rw[l] at d;injection d with d;injection d with t s;exact⟨t,s⟩
  obtain⟨rfl,rfl⟩:=e;have hc:=hk i x;have k:∀j v r,(zu kids[i] (q i) (c i))[j]?=some v->(zu b[i] q2 c2)[j]?=some r->v=r:=fun j v r t s=>Uc ((zc hc t).symm.trans (zc m s));have z:=k 4 _ _ rfl rfl;injection z with eq1 eq2 eq3;subst eq1;exact Cnd.ext (zkK (k 0 _ _ rfl rfl)) (zkK (k 1 _ _ rfl rfl)) (zkK (k 2 _ _ rfl rfl)) (zkK (k 3 _ _ rfl rfl)) (ih i x n eq2)
abbrev PlK:=Nat×Nat×Nat×Nat
def plV (k:PlK):Value := .agg #[.pointer (some ⟨k.1,k.2.1,none⟩),i64 (k.2.2.1:Nat),i64 (k.2.2.2:Nat)]
def zoN (f:FinV) (d:Nat) (l:List Cnd):Value := .agg #[.bool (l.any (qP f (21-d))),.bool (l.all (qP f (21-d)))]
def PlainAt (w:Wd) (k:PlK):Prop:=∃(cs:Array Value) (t:TypeId),w.heap[k.1]?=some (.cells cs t (0,0))
theorem KidsG.plain{B:Nat}{w:Wd}{p:OA}{l:List Cnd}(h:KidsG B w p l)(h0:l.length≠0):∃b o,p=some ⟨b,o,none⟩/\b<B/\(∃(cs:Array Value) (t:TypeId),w.heap[b]?=some (.cells cs t (0,0)))/\∀i (h:i<l.length),∃q c,zI w ⟨b,o+i*5,none⟩ (zu l[i] q c)/\KidsG B w q l[i].kids:=by
 obtain⟨_,g,o,a,j⟩:=h.inv;rcases a with a | ⟨a,d,e⟩
 ·exact Gp a h0
 ·exact⟨g,o,a,d,e,j⟩
def KnowOk (B:Nat) (f:FinV) (w:Wd) (g:PlK->Option Value):Prop:=∀k v,g k=some v->∃l,KidsG B w (some ⟨k.1,k.2.1,none⟩) l/\l.length=k.2.2.1/\l.length≠0/\v=zoN f k.2.2.2 l
section
variable{B:Nat}{f:FinV}{w w2:Wd}{g:PlK->Option Value}
theorem KnowOk.nil:KnowOk B f w fun _=>none:=fun k v h=>by cases h
theorem KnowOk.at(h:KnowOk B f w g){k:PlK}{v:Value}(e:g k=some v):PlainAt w k:=by
 obtain⟨l,i,_,d,_⟩:=h k v e;obtain⟨b,o,a,_,c,_⟩:=i.plain d
 cases a
 exact c
theorem KnowOk.use(h:KnowOk B f w g){b o d:Nat}{l:List Cnd}{v:Value}(hk:KidsG B w (some ⟨b,o,none⟩) l)(e:g (b,o,l.length,d)=some v):v=zoN f d l:=by
 obtain⟨j,a,i,_,c⟩:=h _ v e;rw[c,KidsG.det hk a i.symm]
theorem KnowOk.add(h:KnowOk B f w g){b o d:Nat}{l:List Cnd}(hk:KidsG B w (some ⟨b,o,none⟩) l)(h0:l.length≠0):KnowOk B f w fun k=>if k=(b,o,l.length,d) then some (zoN f d l) else g k:=fun k v e=>by
 dsimp only at e
 split at e
 ·rename_i a;subst a;exact⟨l,hk,rfl,h0,(Uc e).symm⟩
 ·exact h k v e
theorem KnowOk.by(hs:∀(g:Nat) (cs:Array Value) (t:TypeId),g<B->w.heap[g]?=some (.cells cs t (0,0))->w2.heap[g]?=w.heap[g]?)(h:KnowOk B f w g):KnowOk B f w2 g:=fun k v e=>by
 obtain⟨l,a,b⟩:=h k v e;exact⟨l,a.by hs,b⟩
end
end Go.Proofs.YtakcdebpklffiaaGreatDoor
namespace Go.Vc
open Go.RowKit
def qr (cs:List Value) (o n:Nat):List Value:=(cs.drop o).take n
theorem zgV(cs:List Value)(o n m:Nat):qr cs o (n+m)=qr cs o n++qr cs (o+n) m:=by
 unfold qr;rw[List.take_add,Uh]
theorem zeJ{cs:List Value}{o n:Nat}(h:o+n<=cs.length):(qr cs o n).length=n:=by
 unfold qr;rw[Qr,Qq];omega
def vOf (g:Bool) (a:List Value):Value:=match g with | true => .agg a.toArray | false=>a.headD undef
structure TyEq (P:Program) (T:TypeId) (g:Bool) (n k:Nat) (G:List Value->Prop):Prop where
 ag:∀w,(isAgg T).run P w = .ok g w
 info:∃i,P.info? T=some i
 cl:P.cellsOf T=n
 one:g=false->n=1
 eq:∀d w a b,a.length=n->b.length=n->G a->G b->∃r:Bool,(Op.equalIn (d+k) T (vOf g a) (vOf g b)).run P w = .ok r w/\(r=true↔a=b)
section
variable{P:Program}
theorem TyEq.up{T:TypeId}{g:Bool}{n k:Nat}{G:List Value->Prop}(h:TyEq P T g n k G)(m:Nat):TyEq P T g n (m+k) G :=
 ⟨h.ag,h.info,h.cl,h.one,fun d w a b f i c e=>by have:=h.eq (d+m) w a b f i c e;rwa [UB] at this⟩
theorem TyEq.part{T:TypeId}{g:Bool}{n k:Nat}{G:List Value->Prop}(h:TyEq P T g n k G)(xs:Array Value)(o:Nat)(hs:o+n<=xs.size)(w:Wd):(Go.part T xs o).run P w = .ok (vOf g (qr xs.toList o n)) w:=by
 obtain⟨i,c⟩:=h.info;have a:=run_sizeOf w c;rw[h.cl] at a;simp only[Go.part,US,h.ag,KZ]
 cases g with
 | true =>
  simp only[Gl,US,a,KZ,UT,vOf];congr 2;apply Qc.1;simp[qr,JR,List.extract_eq_take_drop]
 | false =>
  have d:=h.one rfl;subst d;have b:o<xs.size:=by omega
  simp only[Ku,Gj,Jn b,UT,vOf];congr 1;unfold qr;rw[Jp (by simpa using b)];simp
inductive Tile (P:Program) (k:Nat):List Field->Nat->Nat->(List Value->Prop)->Prop
 | nil {s:Nat}:Tile P k [] s s (fun _=>True)
 | cons {f : Field} {fs : List Field} {s e n : Nat} {g : Bool} {G G' : List Value → Prop} (hn : f.name ≠ "_") (ho : f.offset = s) (ht : TyEq P f.type g n k G) (hr : Tile P k fs (s + n) e G') : Tile P k (f :: fs) s e (fun cs => G (cs.take n) ∧ G' (cs.drop n))
theorem Tile.le{k:Nat}{fs:List Field}{s e:Nat}{G:List Value->Prop}(h:Tile P k fs s e G):s<=e:=by
 induction h with
 | nil=>exact UW _
 | cons _ _ _ _ ih=>omega
theorem Tile.eq{k:Nat}{fs:List Field}{s e:Nat}{G:List Value->Prop}(h:Tile P k fs s e G):∀(d:Nat) (xs ys:Array Value) (w:Wd),e<=xs.size->e<=ys.size->G (qr xs.toList s (e-s))->G (qr ys.toList s (e-s)) ->
  ∃r:Bool,(Op.eqFields (d+k) xs ys fs).run P w = .ok r w/\(r=true↔qr xs.toList s (e-s)=qr ys.toList s (e-s)):=by
 induction h with
 | nil=>intro d xs ys w _ _ _ _;exact⟨true,rfl,by simp [qr]⟩
 | @cons f fs s e n g G G' hn ho ht hr ih =>
  intro d xs ys w v hy l b;have u:=hr.le;have p:e-s=n+(e-(s+n)):=by omega
  rw[p,zgV] at l b;rw[p,zgV,zgV];have o:(qr xs.toList s n).length=n:=zeJ (by simp;omega);have q:(qr ys.toList s n).length=n:=zeJ (by simp;omega);obtain⟨c,j⟩:=l;obtain⟨a,i⟩:=b;rw[Jg (by omega),JE (by omega)] at c a;rw[Je (by omega),JA (by omega),QQ] at j i;obtain⟨z,y,h2⟩:=ht.eq d w _ _ o q c a;obtain⟨t,h3,x⟩:=ih d xs ys w v hy j i;simp only[Op.eqFields,hn,ne_eq,not_false_eq_true,Gl,US,ho,ht.part xs s (by omega) w,ht.part ys s (by omega) w,KZ,y];have m:(qr xs.toList s n++qr xs.toList (s+n) (e-(s+n))=qr ys.toList s n++qr ys.toList (s+n) (e-(s+n)))↔(qr xs.toList s n=qr ys.toList s n/\qr xs.toList (s+n) (e-(s+n))=qr ys.toList (s+n) (e-(s+n))) :=
   ⟨fun h=>List.append_inj h (by rw[o,q]),fun h=>by rw[h.1,h.2]⟩
  rw[m,<- h2,<- x]
  cases z with
  | true=>exact⟨t,by simpa using h3,by simp⟩
  | false=>exact⟨false,by simp,by simp⟩
theorem TyEq.struct{T:TypeId}{k n:Nat}{G:List Value->Prop}(hu:P.underlying T=some (.struct (P.fieldsOf T)))(hp:P.stoodInHeld T=false)(hag:∀w,(isAgg T).run P w = .ok true w)(hi:∃i,P.info? T=some i)(hc:P.cellsOf T=n)
  (ht:Tile P k (P.fieldsOf T).toList 0 n G):TyEq P T true n (k+1) G :=
 ⟨hag,hi,hc,fun h=>(by cases h),fun d w a b f g o m=>by
  have e:∀l:List Value,l.length=n->qr l.toArray.toList 0 (n-0)=l:=fun l p=>by
   unfold qr;rw[Uj,UO];exact JE (by show l.length<=n;omega)
  obtain⟨r,j,c⟩:=ht.eq d a.toArray b.toArray w (by simp;omega) (by simp;omega) (by rw[e a f];exact o) (by rw[e b g];exact m);rw[e a f,e b g] at c;refine⟨r,?_,c⟩;have:=run_equalIn_struct (P:=P) w (d+k) T a.toArray b.toArray hu hp;rw[<- UB];exact this.trans j⟩
theorem zrs{n m:Nat}(hn:0<n){a b:List Value}(ha:a.length=m*n)(hb:b.length=m*n)(h:∀i,i<m->qr a (i*n) n=qr b (i*n) n):a=b:=by
 apply KO;intro j;by_cases d:j<m*n
 ·have e:j/n<m:=Kb (by rw[UM];exact d);have c:=Gi (fun l=>l[j%n]?) (h _ e);simp only[qr,Ky,Gn (Ge j hn),Kx] at c;rw[UM,QV] at c;exact c
 ·rw[JI (by omega),JI (by omega)]
theorem TyEq.array{T e:TypeId}{g:Bool}{n k m:Nat}{G:List Value->Prop}(hn:0<n)(hu:P.underlying T=some (.array m e))(hag:∀w,(isAgg T).run P w = .ok true w)(hi:∃i,P.info? T=some i)(hc:P.cellsOf T=m*n)(ht:TyEq P e g n k G) :
  TyEq P T true (m*n) (k+1) (fun cs=>∀i,i<m->G (qr cs (i*n) n)) :=
 ⟨hag,hi,hc,fun h=>(by cases h),fun d w a b ha hb ga gb=>by
  obtain⟨ie,q⟩:=ht.info;have p:∀c:List Nat,(∀i∈c,i<m)->∃r:Bool,(Op.eqItems (d+k) e n a.toArray b.toArray c).run P w = .ok r w/\(r=true↔∀i∈c,qr a (i*n) n=qr b (i*n) n):=by
   intro c
   induction c with
   | nil=>intro _;exact⟨true,rfl,by simp⟩
   | cons i c ih =>
    intro f;have hi:=f i KA;have y:i*n+n<=m*n:=(by rw[<- UP];exact Kd _ hi);obtain⟨v,h3,z⟩:=ih fun j hj=>f j (JV _ hj);obtain⟨r1,o,l⟩:=ht.eq d w (qr a (i*n) n) (qr b (i*n) n) (zeJ (by omega)) (zeJ (by omega)) (ga i hi) (gb i hi);have t:=ht.part a.toArray (i*n) (by simp;omega) w;have s:=ht.part b.toArray (i*n) (by simp;omega) w;have u:a.toArray.toList=a:=rfl;have x:b.toArray.toList=b:=rfl;rw[u] at t;rw[x] at s;simp only[Op.eqItems,US,t,s,KZ,o]
    cases r1 with
    | true =>
     refine⟨v,by simpa using h3,?_⟩;rw[z];have:=l.1 rfl;simp[this]
    | false =>
     refine⟨false,by simp,?_⟩;simp only[Ku,false_iff];intro h;have:=l.2 (h i KA)
     cases this
  obtain⟨r,o,l⟩:=p (List.range m) fun i hi=>Ul.1 hi;refine⟨r,?_,?_⟩
  ·have:=run_equalIn_array (P:=P) w (d+k) a.toArray b.toArray hu q;rw[ht.cl] at this;rw[<- UB];exact this.trans o
  ·rw[l];exact⟨fun h=>zrs hn ha hb fun i hi=>h i (Ul.2 hi),fun h i _=>by rw[h]⟩⟩
theorem TyEq.int{T:TypeId}{q:IntKind}(hu:P.underlying T=some (.int q))(hag:∀w,(isAgg T).run P w = .ok false w)(hi:∃i,P.info? T=some i)(hc:P.cellsOf T=1):TyEq P T false 1 1 (fun cs=>∃x,cs=[.int q x]) :=
 ⟨hag,hi,hc,fun _=>rfl,fun d w a b _ _ ⟨x,e⟩ ⟨y,c⟩=>by
  subst e c;refine⟨decide (x=y),?_,by simp⟩;simp only[vOf,List.headD_cons,Op.equalIn,US,Uq hu,KZ,Gl,UT];congr 1⟩
theorem TyEq.bool{T:TypeId}(hu:P.underlying T=some .bool)(hag:∀w,(isAgg T).run P w = .ok false w)(hi:∃i,P.info? T=some i)(hc:P.cellsOf T=1):TyEq P T false 1 1 (fun cs=>∃x,cs=[.bool x]) :=
 ⟨hag,hi,hc,fun _=>rfl,fun d w a b _ _ ⟨x,e⟩ ⟨y,c⟩=>by
  subst e c;refine⟨x == y,?_,by simp⟩;simp only[vOf,List.headD_cons,Op.equalIn,US,Uq hu,KZ,UT]⟩
end
end Go.Vc
namespace Go.Proofs.YtakcdebpklffiaaGreatDoor
open Go.Vc Go.RowKit Go.Sei
def zxG (q:IntKind) (cs:List Value):Prop:=∃x,cs=[.int q x]
def zyl (cs:List Value):Prop:=∃x,cs=[.bool x]
theorem tU8:TyEq PG 5 false 1 1 (zxG .u8) := .int Tryz.underlying5 (fun w=>Tryz.isAgg5 w) (jc (by kernel_rfl) (by kernel_rfl)).1 (by kernel_rfl)
theorem zxV:TyEq PG 4 false 1 1 zyl := .bool Tryz.underlying4 (fun w=>Tryz.isAgg4 w) (jc (by kernel_rfl) (by kernel_rfl)).1 (by kernel_rfl)
theorem uf{T:TypeId}{F:Array Field}(h:Tryz.prog.underlying T=some (.struct F)):Tryz.prog.underlying T=some (.struct (Tryz.prog.fieldsOf T))/\Tryz.prog.fieldsOf T=F:=by
 have:Tryz.prog.fieldsOf T=F:=by unfold Program.fieldsOf;rw[h]
 exact⟨by rw[this];exact h,this⟩
open Classical in
noncomputable def cdec (p:Prop):Bool:=decide p
theorem zvS{p:Prop}[h:Decidable p]:cdec p=decide p:=by unfold cdec;congr
theorem zdi{p q:Prop}[Decidable q](h:p↔q):cdec p=decide q:=by
 have:p=q:=propext h;subst this;exact zvS
section
variable{T:TypeId}{n k:Nat}{G:List Value->Prop}(h:TyEq PG T true n k G)(d:Nat)(hd:d+k=10000)(hg:Tryz.prog.eqGuardType Tryz.prog.depth T=false){a b:List Value}(ha:a.length=n)(hb:b.length=n)(ga:G a)(gb:G b)
include h hd hg ha hb ga gb
omit hg in
theorem equal_ty(w:Wd):(Op.equal T (.agg a.toArray) (.agg b.toArray)).run PG w = .ok (cdec (a=b)) w:=by
 obtain⟨r,c,f⟩:=h.eq d w a b ha hb ga gb;have e:r=cdec (a=b):=by
  unfold cdec
  cases r with
  | true=>simp [f.1 rfl]
  | false =>
   have:¬a=b:=fun e=>by have:=f.2 e;cases this
   simp[this]
 rw[hd] at c;rw[<- e];exact c
theorem zsK(x y:Operand)(w:Wd):(do eqGuard .neq T x y (.agg a.toArray) (.agg b.toArray);binOp .neq T (.agg a.toArray) (.agg b.toArray)).run PG w = .ok (.bool (!cdec (a=b))) w:=by
 have c:=equal_ty h d hd ha hb ga gb w;have e:(eqGuard .neq T x y (.agg a.toArray) (.agg b.toArray)).run PG w = .ok () w:=by
  simp only[eqGuard,Ut,Ku,Gj,US,run_program,KZ,hg,Bool.not_false,Gl,UT]
 rw[US,e];simp only[KZ,binOp,US,c,UT]
theorem zlq(x y:Operand)(w:Wd):(do eqGuard .eql T x y (.agg a.toArray) (.agg b.toArray);binOp .eql T (.agg a.toArray) (.agg b.toArray)).run PG w = .ok (.bool (cdec (a=b))) w:=by
 have c:=equal_ty h d hd ha hb ga gb w;have e:(eqGuard .eql T x y (.agg a.toArray) (.agg b.toArray)).run PG w = .ok () w:=by
  simp only[eqGuard,Ut,Ku,Gj,US,run_program,KZ,hg,Bool.not_false,Gl,UT]
 rw[US,e];simp only[KZ,binOp,US,c,UT]
end
theorem zx6(e:Bool)(n:Nat)(x:UInt8)(w:Wd):(Instr.checkKey e (n+1) 5 (u8 x)).run PG w = .ok () w:=by
 simp only[Instr.checkKey,US,Uq Tryz.underlying5,KZ,u8,UT]
theorem zyI(d:Nat)(x y:UInt8)(w:Wd):(Op.equalIn (d+1) 5 (u8 x) (u8 y)).run PG w = .ok (decide (x=y)) w:=by
 simp only[Op.equalIn,US,Uq Tryz.underlying5,KZ,u8,Gl,UT];have:decide ((x.toNat:Int)=(y.toNat:Int))=decide (x=y):=by
  rw[QC];constructor
  ·intro h;exact Ud.1 (by omega)
  ·rintro rfl;rfl
 rw[<- this];rfl
theorem zhX:MapK PG 5 u8 where
 check:=fun q e w=>zx6 e 9999 q w
 eq:=fun q a w=>zyI 9999 q a w
 same:=fun q=>by simp[Instr.sameBits,u8]
 desc:=⟨_,Tryz.underlying5,fun q a=>by
  right;simp only[Instr.sameNow,u8];have e:decide ((q.toNat:Int)=(a.toNat:Int))=decide (q=a):=by
   rw[QC];constructor
   ·intro h;exact Ud.1 (by omega)
   ·rintro rfl;rfl
  rw[<- e,Gn trivial];rfl⟩
theorem zpp{T:TypeId}(hag:∀w,(isAgg T).run PG w = .ok false w)(xs:Array Value)(o:Nat)(v:Value)(h:xs[o]?=some v)(w:Wd):(part T xs o).run PG w = .ok v w:=by
 simp only[part,US,hag,KZ,Ku,Gj,h,UT]
theorem zx4(d:Nat)(x y:Int)(w:Wd):(Op.equalIn (d+1) 3 (.int .i64 x) (.int .i64 y)).run PG w = .ok (decide (x=y)) w:=by
 simp only[Op.equalIn,US,Uq Tryz.underlying3,KZ,Gl,UT];rfl
theorem zyJ(d:Nat){a b:Addr}{ca cb:Array Value}{ta tb:TypeId}{w:Wd}(ha:w.heap[a.block]?=some (.cells ca ta (0,0)))(hb:w.heap[b.block]?=some (.cells cb tb (0,0))) :
  (Op.equalIn (d+1) 267 (.pointer (some a)) (.pointer (some b))).run PG w = .ok (decide (a=b)) w:=by
 have c:∀w,(sizeOf 27).run PG w = .ok 5 w:=zaV (jc (by kernel_rfl) (by kernel_rfl)) (by kernel_rfl);simp only[Op.equalIn,US,Uq Tryz.underlying267,KZ,c];rw[Gn (by decide:(5:Nat)≠0)];by_cases h:a=b
 ·subst h;rw[run_sameAddr_same];simp
 ·rw[run_sameAddr_other w h ha hb];simp[h]
theorem zsy{w:Wd}{q q':PlK}(hq:PlainAt w q)(hq':PlainAt w q'):(Op.equal 300 (plV q) (plV q')).run PG w = .ok (decide (q=q')) w:=by
 obtain⟨a,o,n,d⟩:=q;obtain⟨i,g,f,c⟩:=q';obtain⟨ca,ta,y⟩:=hq;obtain⟨cb,tb,z⟩:=hq';have s:=zyJ 9998 (a:=⟨a,o,none⟩) (b:=⟨i,g,none⟩) y z;have u:(Op.equalIn 9999 3 (i64 (n:Nat)) (i64 (f:Nat))).run PG w = .ok (decide ((n:Int)=(f:Int))) w:=zx4 9998 (n:Int) (f:Int) w;have x:(Op.equalIn 9999 3 (i64 (d:Nat)) (i64 (c:Nat))).run PG w = .ok (decide ((d:Int)=(c:Int))) w:=zx4 9998 (d:Int) (c:Int) w;have p:=fun(xs:Array Value) (o:Nat) (v:Value) (h:xs[o]?=some v)=>zpp (fun w=>Tryz.isAgg267 w) xs o v h w;have j:=fun(xs:Array Value) (o:Nat) (v:Value) (h:xs[o]?=some v)=>zpp (fun w=>Tryz.isAgg3 w) xs o v h w;show(Op.equalIn (9998+1+1) _ _ _).run _ _=_;unfold plV;rw[run_equalIn_struct w 9999 _ _ _ (uf Tryz.underlying300).1 (by kernel_rfl),(uf Tryz.underlying300).2];obtain⟨X,l⟩:∃X:Array Value,X = #[.pointer (some ⟨a,o,none⟩),i64 (n:Nat),i64 (d:Nat)]:=⟨_,rfl⟩;obtain⟨Y,k⟩:∃Y:Array Value,Y = #[.pointer (some ⟨i,g,none⟩),i64 (f:Nat),i64 (c:Nat)]:=⟨_,rfl⟩;rw[<- l,<- k];simp only[Op.eqFields,ne_eq,String.reduceEq,not_false_eq_true,Gl,US,Sem.run_ite,p X 0 (.pointer (some ⟨a,o,none⟩)) (by rw[l];rfl),p Y 0 (.pointer (some ⟨i,g,none⟩)) (by rw[k];rfl),j X 1 (i64 (n:Nat)) (by rw[l];rfl),j Y 1 (i64 (f:Nat)) (by rw[k];rfl),j X 2 (i64 (d:Nat)) (by rw[l];rfl),j Y 2 (i64 (c:Nat)) (by rw[k];rfl),KZ,s,u,x];clear s u x p j l k;by_cases m:(⟨a,o,none⟩:Addr)=⟨i,g,none⟩
 ·have e2:a=i:=Gi Addr.block m;have e3:o=g:=Gi Addr.off m;subst e2 e3;by_cases r:n=f
  ·subst r;by_cases t:d=c
   ·subst t;simp
   ·have:¬(d:Int)=(c:Int):=(by omega);simp[t,this]
  ·have:¬(n:Int)=(f:Int):=by omega
   simp[r,this]
 ·have:¬((a,o,n,d):PlK)=(i,g,f,c):=fun e=>m (by cases e;rfl);simp[m,this]
theorem zx7(e:Bool)(n:Nat)(v:Value)(w:Wd):(Instr.checkKey e (n+1) 267 v).run PG w = .ok () w:=by
 simp only[Instr.checkKey,US,Uq Tryz.underlying267,KZ,UT]
theorem zx8(e:Bool)(n:Nat)(v:Value)(w:Wd):(Instr.checkKey e (n+1) 3 v).run PG w = .ok () w:=by
 simp only[Instr.checkKey,US,Uq Tryz.underlying3,KZ,UT]
theorem zxX(w:Wd):MapKw PG 300 plV w (PlainAt w) where
 check:=fun q e=>by
  obtain⟨a,o,n,d⟩:=q;have c:=fun v=>zx7 e 9998 v w;have g:=fun v=>zx8 e 9998 v w;have j:=fun(xs:Array Value) (o:Nat) (v:Value) (h:xs[o]?=some v)=>zpp (fun w=>Tryz.isAgg267 w) xs o v h w;have f:=fun(xs:Array Value) (o:Nat) (v:Value) (h:xs[o]?=some v)=>zpp (fun w=>Tryz.isAgg3 w) xs o v h w;obtain⟨m,i⟩:=nm (9998+1);rw[<- i] at c g;show(Instr.checkKey e (9998+1+1) _ _).run _ _=_;rw[<- i];unfold plV;obtain⟨X,b⟩:∃X:Array Value,X = #[.pointer (some ⟨a,o,none⟩),i64 (n:Nat),i64 (d:Nat)]:=⟨_,rfl⟩;rw[<- b];simp only[Instr.checkKey,US,Uq Tryz.underlying300,KZ,<- Array.forIn_toList,List.forIn_cons,List.forIn_nil,ne_eq,String.reduceEq,not_false_eq_true,Gl,j X 0 (.pointer (some ⟨a,o,none⟩)) (by rw[b];rfl),f X 1 (i64 (n:Nat)) (by rw[b];rfl),f X 2 (i64 (d:Nat)) (by rw[b];rfl),c,g,UT]
 eq:=fun q l h k=>zsy h k
 same:=fun q=>by simp[Instr.sameBits,plV,i64]
 desc:=⟨_,Tryz.underlying300,fun _ _=>rfl⟩
end Go.Proofs.YtakcdebpklffiaaGreatDoor
