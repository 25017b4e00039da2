/- Contracts of functions, and plain facts, for the law that the last text of this claim proves. -/
import Derived.Below
import Derived.CallsIn
import Derived.OrdersIn
import Derived.RangeFuncLeaves
import Derived.Laws.StructEq
import Derived.Laws.Rows
import Derived.RangeFuncSeq
import Derived.Deep.LoopGhost
import Derived.Laws.AppendOwn
import Derived.Maps.AppendAt
import Derived.Laws.AppendOwnNone
import Derived.KernelRfl
import Derived.Test.YtnadlhpkpnfmbaaGreatDoorProg
import GoSem.Instr.MapEntry
import Derived.ChangeKeysEq
import Derived.RangeFuncIn
import Derived.RangeFuncNested
set_option linter.unusedSimpArgs false
set_option linter.unusedVariables false
namespace Go
abbrev Ja:=@Nat.exists_ge_and_testBit_of_ge_two_pow
abbrev Jb:=@List.set_eq_take_append_cons_drop
abbrev Jc:=@Array.all_eq_true_iff_forall_mem
abbrev Jd:=@List.take_succ_eq_append_getElem
abbrev Je:=@List.eq_nil_iff_forall_not_mem
abbrev Jf:=@List.eq_nil_of_length_eq_zero
abbrev Jg:=@List.take_append_of_le_length
abbrev Jh:=@Array.getElem?_setIfInBounds
abbrev Ji:=@Array.getD_eq_getD_getElem?
abbrev Jj:=@List.drop_length_add_append
abbrev Jk:=@Array.getElem?_eq_some_iff
abbrev Jl:=@List.getElem?_append_right
abbrev Jm:=@Array.getElem?_eq_getElem
abbrev Jn:=@Classical.byContradiction
abbrev Jo:=@List.drop_eq_getElem_cons
abbrev Jp:=@List.getElem?_append_left
abbrev Jq:=@List.getElem?_eq_some_iff
abbrev Jr:=@List.isEmpty_eq_false_iff
abbrev Js:=@List.eq_of_mem_replicate
abbrev Jt:=@List.getElem?_eq_getElem
abbrev Ju:=@List.getElem?_cons_succ
abbrev Jv:=@List.head_eq_of_cons_eq
abbrev Jw:=@Nat.add_sub_cancel_left
abbrev Jy:=@Go.World.block_lt_of_cell?
abbrev Jz:=@List.drop_eq_nil_of_le
abbrev JA:=@List.drop_of_length_le
abbrev JB:=@List.filter_eq_nil_iff
abbrev JC:=@List.getElem?_set_self
abbrev JD:=@List.getElem_cons_drop
abbrev JE:=@List.take_of_length_le
abbrev JF:=@Nat.testBit_lt_two_pow
abbrev JH:=@Array.getElem?_append
abbrev JI:=@Array.mem_of_getElem?
abbrev JJ:=@List.getElem?_eq_none
abbrev JK:=@List.getElem?_reverse
abbrev JL:=@List.length_filter_le
abbrev JM:=@List.length_replicate
abbrev JO:=@List.mem_append_right
abbrev JP:=@List.set_append_right
abbrev JQ:=@List.take_append_drop
abbrev JR:=@Nat.eq_of_beq_eq_true
abbrev JS:=@Nat.le_of_ble_eq_true
abbrev JT:=@Array.toList_extract
abbrev JU:=@List.contains_eq_mem
abbrev JV:=@List.getElem?_set_ne
abbrev JW:=@List.mem_cons_of_mem
abbrev JY:=@List.mem_of_getElem?
abbrev JZ:=@List.mem_of_mem_take
abbrev Ka:=@Nat.eq_of_testBit_eq
abbrev Kb:=@Nat.pow_le_pow_right
abbrev Kc:=@Nat.pow_lt_pow_right
abbrev Kd:=@Go.ByteArray.toList_eq
abbrev Ke:=@Function.comp_apply
abbrev Kf:=@List.flatMap_append
abbrev Kg:=@List.getElem?_range
abbrev Kh:=@List.getElem_of_mem
abbrev Ki:=@List.length_reverse
abbrev Kj:=@List.map_congr_left
abbrev Kk:=@List.mem_map_of_mem
abbrev Kl:=@List.reverse_append
abbrev Km:=@List.takeWhile_cons
abbrev Kn:=@Nat.testBit_two_pow
abbrev Ko:=@Go.callsIn_of_wp_marks
abbrev Kq:=@Go.run_enterLoop_outer
abbrev Kr:=@Array.foldl_toList
abbrev Ks:=@BitVec.toNat_ofInt
abbrev Kt:=@Bool.false_eq_true
abbrev Ku:=@Bool.false_ne_true
abbrev Kv:=@List.filter_append
abbrev Kw:=@List.getElem?_drop
abbrev Kx:=@List.getElem?_take
abbrev Ky:=@List.getElem_range
abbrev Kz:=@List.mem_cons_self
abbrev KA:=@List.mem_singleton
abbrev KB:=@List.ne_nil_of_mem
abbrev KC:=@List.set_cons_succ
abbrev KD:=@Nat.and_one_is_mod
abbrev KE:=@Nat.lt_of_le_of_lt
abbrev KF:=@Nat.lt_of_lt_of_le
abbrev KG:=@Nat.pos_of_ne_zero
abbrev KH:=@UInt8.toNat_ofNat'
abbrev KI:=@of_decide_eq_false
abbrev KJ:=@Bool.not_eq_true'
abbrev KK:=@Go.DataW.trod_struct
abbrev KL:=@Int.toNat_natCast
abbrev KM:=@List.all_eq_false
abbrev KN:=@List.any_eq_false
abbrev KO:=@List.append_assoc
abbrev KQ:=@List.ext_getElem?
abbrev KR:=@List.filter_congr
abbrev KS:=@List.flatMap_cons
abbrev KT:=@List.foldl_append
abbrev KU:=@List.getElem?_map
abbrev KV:=@List.length_range
abbrev KW:=@List.reverse_cons
abbrev KX:=@List.size_toArray
abbrev KY:=@Nat.or_lt_two_pow
abbrev KZ:=@Option.some.injEq
abbrev Qa:=@Result.andThen_ok
abbrev Qb:=@Go.Value.slice.injEq
abbrev Qc:=@not_true_eq_false
abbrev Qd:=@of_decide_eq_true
abbrev Qe:=@Go.run_storeCells_at
abbrev Qf:=@Array.toList_inj
abbrev Qg:=@Array.toList_map
abbrev Qh:=@BitVec.toNat_and
abbrev Qi:=@Bool.and_eq_true
abbrev Qj:=@Bool.not_eq_true
abbrev Qk:=@List.all_eq_true
abbrev Ql:=@List.any_eq_true
abbrev Qm:=@List.cons_append
abbrev Qn:=@List.drop_length
abbrev Qo:=@List.filter_cons
abbrev Qp:=@List.flatMap_map
abbrev Qq:=@List.flatMap_nil
abbrev Qr:=@List.getElem_map
abbrev Qs:=@List.isEmpty_iff
abbrev Qt:=@List.length_cons
abbrev Qu:=@List.length_drop
abbrev Qv:=@List.length_take
abbrev Qw:=@List.not_mem_nil
abbrev Qx:=@List.take_length
abbrev Qy:=@Nat.le_add_right
abbrev Qz:=@Nat.lt_of_not_le
abbrev QA:=@Nat.lt_succ_self
abbrev QB:=@Nat.min_le_right
abbrev QC:=@Nat.mod_eq_of_lt
abbrev QD:=@Nat.zero_testBit
abbrev QE:=@Option.getD_some
abbrev QF:=@Go.World.ownsRow.lt
abbrev QG:=@Go.World.size_alloc
abbrev QH:=@decide_eq_decide
abbrev QI:=@Bool.or_eq_true
abbrev QJ:=@Go.DataW.lit.injEq
abbrev QK:=@Int.natCast_mul
abbrev QL:=@List.all_append
abbrev QM:=@List.append_nil
abbrev QN:=@List.cons.injEq
abbrev QO:=@List.foldl_cons
abbrev QQ:=@List.length_map
abbrev QR:=@List.length_nil
abbrev QS:=@List.length_set
abbrev QT:=@List.map_append
abbrev QU:=@List.mem_append
abbrev QV:=@List.mem_filter
abbrev QW:=@List.nil_append
abbrev QX:=@List.nodup_cons
abbrev QY:=@List.range_succ
abbrev QZ:=@List.take_left'
abbrev Ua:=@Nat.and_le_left
abbrev Ub:=@Nat.div_add_mod
abbrev Uc:=@Nat.min_eq_left
abbrev Ud:=@Nat.testBit_and
abbrev Ue:=@Nat.two_pow_pos
abbrev Uf:=@Option.map_some
abbrev Ug:=@Option.some.inj
abbrev Uh:=@UInt8.toNat_inj
abbrev Ui:=@Go.World.var?_cell
abbrev Uj:=@decide_eq_false
abbrev Uk:=@Bool.and_false
abbrev Ul:=@Bool.false_and
abbrev Um:=@List.drop_drop
abbrev Un:=@List.drop_left
abbrev Uo:=@List.drop_zero
abbrev Up:=@List.mapM_cons
abbrev Uq:=@List.mem_range
abbrev Ur:=@List.take_zero
abbrev Us:=@Nat.mul_le_mul
abbrev Ut:=@decide_eq_true
abbrev Uu:=@Go.run_underlying
abbrev Uv:=@Go.Addr.mk.injEq
abbrev Uw:=@Bool.false_or
abbrev Ux:=@Bool.not_true
abbrev Uy:=@Bool.or_false
abbrev Uz:=@Bool.true_and
abbrev UA:=@Go.DataW.agg.inj
abbrev UB:=@Int.ofNat.inj
abbrev UC:=@List.all_cons
abbrev UD:=@List.any_cons
abbrev UE:=@List.map_cons
abbrev UF:=@List.mem_cons
abbrev UG:=@Go.Lit.int.injEq
abbrev UH:=@Nat.add_assoc
abbrev UI:=@Nat.mul_assoc
abbrev UJ:=@Prod.mk.injEq
abbrev UK:=@Bool.not_not
abbrev UL:=@List.map_map
abbrev UM:=@List.map_nil
abbrev UN:=@List.map_set
abbrev UO:=@List.mem_map
abbrev UP:=@Nat.add_comm
abbrev UQ:=@Nat.add_zero
abbrev UR:=@Nat.beq_refl
abbrev US:=@Nat.le_of_lt
abbrev UT:=@Nat.le_trans
abbrev UU:=@Nat.mul_comm
abbrev UV:=@Nat.sub_self
abbrev UW:=@Nat.sub_zero
abbrev UX:=@Nat.zero_add
abbrev UY:=@Sem.run_bind
abbrev UZ:=@Sem.run_pure
abbrev Ga:=@decide_false
abbrev Gb:=@Nat.add_mul
abbrev Gc:=@Nat.le_refl
abbrev Gd:=@Nat.mul_one
abbrev Ge:=@Nat.zero_le
abbrev Gf:=@Prod.mk.inj
abbrev Gg:=@Go.run_endLoop
abbrev Gh:=@Go.RowKit.Below.refl
abbrev Gi:=@Go.Calls.mono
abbrev Gj:=@Nat.ble_eq
abbrev Gk:=@Nat.blt_eq
abbrev Gl:=@Nat.mod_lt
abbrev Gm:=@And.intro
abbrev Gn:=@Go.wpIn_mono
abbrev Gp:=@and_true
abbrev Gq:=@congrArg
abbrev Gr:=@if_false
abbrev Gs:=@or_false
abbrev Gt:=@true_and
abbrev Gu:=@if_true
abbrev Gw:=@if_neg
abbrev Gx:=@if_pos
abbrev Gy:=@absurd
abbrev Wd:=World
abbrev OA:=Option Addr
noncomputable abbrev PG:=Go.Proofs.Tryz.prog
end Go
namespace Go.Proofs.YtnadlhpkpnfmbaaGreatDoor
abbrev Bs:=List UInt8
def jq (c:UInt8):Bool:=decide (97<=c.toNat)&&decide (c.toNat<=122)
def qm (c:UInt8):Bool:=decide (65<=c.toNat)&&decide (c.toNat<=90)
def z8 (c:UInt8):Bool:=jq c||(decide (48<=c.toNat)&&decide (c.toNat<=57)||decide (c=45))
def zW (c:UInt8):Bool:=decide (c=32)||decide (c=9)
def zcS (c:UInt8):Bool:=decide (c≠10)
def zbj (p:UInt8->Bool) (s:Bs) (at_:Nat):Bs:=(s.drop at_).takeWhile p
def qJ (p:UInt8->Bool) (s:Bs) (at_:Nat):Nat:=at_+(zbj p s at_).length
def zS:List Bs:=[[108,101,116],[97,99,121,99,108,105,99],[105,114,114,101,102,108,101,120,105,118,101],[101,109,112,116,121]]
def zaK (s:Bs):Nat:=zS.findIdx (fun w=>decide (w=s))
def zg6 (s:Bs):Bool:=decide (s=[97,115])||decide (zaK s<4)
def jH (s:Bs):Bool:=[[112,111],[114,102],[99,111],[102,114],[114,109,119],[100,97,116,97],[99,116,114,108],[108,111,99],[105,100],[101,120,116],[105,110,116]].any fun w=>decide (w=s)
def zfd (s:Bs):Bool:=[[82],[87],[70],[77],[65],[76],[88],[70,70],[70,76],[70,83],[73]].any fun w=>decide (w=s)
structure Tk where
 kind:Nat
 text:Bs
 at_:Nat
def jA (k:Nat) (t:Bs) (at_:Nat):Tk:=if t.length > 16 then ⟨0,[],at_⟩ else ⟨k,t,at_⟩
def zdK:Bs:=[61,124,38,92,59,43,42,91,93,40,41]
def zbL (s:Bs) (at_:Nat):Nat :=
 if s[qJ zW s at_]?=some 35 then qJ zcS s (qJ zW s at_) else qJ zW s at_
def qW (s:Bs) (a:Nat):Tk :=
 match s[a]? with
 | none=>⟨1,[],a⟩
 | some c =>
  if c=10 then ⟨2,[c],a⟩
  else if jq c then (if zg6 (zbj z8 s a) then ⟨3,zbj z8 s a,a⟩ else jA 4 (zbj z8 s a) a)
  else if qm c then jA 5 (zbj qm s a) a
  else if c∈zdK then ⟨6,[c],a⟩
  else if (s.drop a).take 3=[94,45,49] then ⟨6,[94,45,49],a⟩
  else ⟨0,[],a⟩
def zr (s:Bs) (at_:Nat):Tk:=qW s (zbL s at_)
inductive Trm where
 | mk (kind:UInt8) (name:Bs) (kids:List Trm)
structure PS where
 tok:Tk
 lets:Bs->Bool
 checks:Bs->Bool
 nodes:Nat
 deep:Nat
 e:Int
section
variable (sc:Nat->Tk)
def zN (st:PS):PS:={ st with tok:=sc (st.tok.at_+st.tok.text.length) }
def zam (e:Int) (st:PS):PS:={ st with e:=e }
def isP (st:PS) (t:Bs):Bool:=decide (st.tok.kind=6)&&decide (st.tok.text=t)
def zY (k:Nat) (t:Bs) (st:PS):Bool×PS:=if st.tok.kind≠k\/st.tok.text≠t then (false,zam 110 st) else (true,zN sc st)
def jf (st:PS):Bool×PS:=if st.nodes ≥ 400 then (false,zam 5 st) else (true,zN sc { st with nodes:=st.nodes+1 })
def q9 (used:Bs->Bool) (st:PS):Option Bs×PS :=
 if st.tok.kind≠4 then (none,zam 110 st) else if used st.tok.text then (none,zam 111 st) else (some st.tok.text,zN sc st)
def zX (st:PS):Nat:=if isP st [124] then 2 else if isP st [38] then 3 else if isP st [92] then 4 else if isP st [59] then 5 else 0
def zad (st:PS):Nat:=if isP st [42] then 8 else if isP st [43] then 7 else if isP st [94,45,49] then 6 else 0
mutual
def termP:Nat->Nat->PS->Option Trm×PS
 | 0,_,st=>(none,st)
 | f+1,least,st=>match tightP f st with
  | (none,st)=>(none,st)
  | (some t,st)=>moreP f least t st
def moreP:Nat->Nat->Trm->PS->Option Trm×PS
 | 0,_,_,st=>(none,st)
 | f+1,least,t,st =>
  if zX st=0\/zX st-1<least then (some t,st) else
  match jf sc st with
  | (false,st)=>(none,st)
  | (true,st2)=>match termP f (zX st) st2 with
   | (none,st3)=>(none,st3)
   | (some r,st3)=>moreP f least (.mk (UInt8.ofNat (zX st)) [] [t,r]) st3
def tightP:Nat->PS->Option Trm×PS
 | 0,st=>(none,st)
 | f+1,st=>match simpleP f st with
  | (none,st)=>(none,st)
  | (some t,st)=>postsP f t st
def postsP:Nat->Trm->PS->Option Trm×PS
 | 0,_,st=>(none,st)
 | f+1,t,st =>
  if zad st=0 then (some t,st) else
  match jf sc st with
  | (false,st2)=>(none,st2)
  | (true,st2)=>postsP f (.mk (UInt8.ofNat (zad st)) [] [t]) st2
def simpleP:Nat->PS->Option Trm×PS
 | 0,st=>(none,st)
 | f+1,st =>
  if st.tok.kind=4 then
   if (!jH st.tok.text && !st.lets st.tok.text)=true then (none,zam 112 st) else
   match jf sc st with
   | (true,st2)=>(some (.mk 1 st.tok.text []),st2)
   | (false,st2)=>(none,st2)
  else if isP st [91] then
   match jf sc st with
   | (false,st2)=>(none,st2)
   | (true,st2) =>
    if st2.tok.kind≠5 then (none,zam 110 st2) else
    if zfd st2.tok.text=false then (none,zam 112 st2) else
    match zY sc 6 [93] (zN sc st2) with
    | (true,st3)=>(some (.mk 9 st2.tok.text []),st3)
    | (false,st3)=>(none,st3)
  else if isP st [40]&&decide (st.deep<50) then
   match termP f 1 (zN sc { st with deep:=st.deep+1 }) with
   | (none,st2)=>(none,{ st2 with deep:=st2.deep-1 })
   | (some t,st2)=>match zY sc 6 [41] { st2 with deep:=st2.deep-1 } with
    | (true,st3)=>(some t,st3)
    | (false,st3)=>(none,st3)
  else (none,zam 110 st)
end
structure LineD where
 kind:Nat
 name:Bs
 term:Trm
def zhQ (l:LineD) (st:PS):Option LineD×PS:=if st.tok.kind≠2/\st.tok.kind≠1 then (none,zam 110 st) else (some l,st)
def za3 (g:Bs->Bool) (s:Bs):Bs->Bool:=fun t=>decide (t=s)||g t
def zak (f many:Nat) (st:PS):Option LineD×PS :=
 if st.tok.kind≠3\/zaK st.tok.text ≥ 4 then (none,zam 110 st)
 else if many ≥ 40 then (none,zam 5 st)
 else if zaK st.tok.text=0 then
  match q9 sc (fun s=>jH s||st.lets s) (zN sc st) with
  | (none,st2)=>(none,st2)
  | (some nq,st2)=>match zY sc 6 [61] st2 with
   | (false,st3)=>(none,st3)
   | (true,st3)=>match termP sc f 1 st3 with
    | (none,st4)=>(none,{ st4 with lets:=za3 st4.lets nq })
    | (some t,st4)=>zhQ ⟨0,nq,t⟩ { st4 with lets:=za3 st4.lets nq }
 else
  match termP sc f 1 (zN sc st) with
  | (none,st2)=>(none,st2)
  | (some t,st2)=>match zY sc 3 [97,115] st2 with
   | (false,st3)=>(none,st3)
   | (true,st3)=>match q9 sc st3.checks st3 with
    | (none,st4)=>(none,{ st4 with checks:=za3 st4.checks [] })
    | (some nq,st4)=>zhQ ⟨zaK st.tok.text,nq,t⟩ { st4 with checks:=za3 st4.checks nq }
def jS (f:Nat):Nat->List LineD->PS->Option (List LineD)×Nat×Int
 | 0,_,st=>(none,st.tok.at_,st.e)
 | n+1,l,st =>
  if st.tok.kind=1 then (some l,0,0)
  else if st.tok.kind=2 then jS f n l (zN sc st)
  else match zak sc f l.length st with
   | (none,st2)=>(none,st2.tok.at_,st2.e)
   | (some x,st2)=>jS f n (l++[x]) st2
end
def zfc (s:Bs):PS:=⟨zr s 0,fun _=>false,fun _=>false,0,0,0⟩
def zV (s:Bs):Option (List LineD)×Nat×Int :=
 if s.length > 8192 then (none,0,3) else jS (zr s) 40000 10000 [] (zfc s)
def j3 (k:Nat):Int:=([-1,0,2,2,2,2,1,1,1,0]:List Int).getD k (-1)
def Trm.kind:Trm->UInt8 | .mk k _ _=>k
def Trm.name:Trm->Bs | .mk _ n _=>n
def Trm.kids:Trm->List Trm | .mk _ _ l=>l
section
variable (lets:Bs->Bool)
mutual
def chkT:Nat->Trm->Bool×Nat
 | n,.mk k nq kids =>
  if n+1 > 400\/k.toNat ≥ 10\/(kids.length:Int)≠j3 k.toNat then (false,n+1)
  else if k=1 then (jH nq||lets nq,n+1)
  else if k=9 then (zfd nq,n+1)
  else if nq≠[] then (false,n+1)
  else chkL (n+1) kids
def chkL:Nat->List Trm->Bool×Nat
 | n,[]=>(true,n)
 | n,t::r=>match chkT n t with
  | (false,n2)=>(false,n2)
  | (true,n2)=>chkL n2 r
end
end
def jh (s:Bs):Bool:=decide (s≠[])&&(decide (s.length<=16)&&(jq (s.getD 0 0)&&(decide (qJ z8 s 0=s.length) && !zg6 s)))
def qe:(Bs->Bool)->(Bs->Bool)->Nat->List LineD->Bool×(Bs->Bool)
 | lets,_,_,[]=>(true,lets)
 | lets,checks,n,l::r =>
  if l.kind > 3\/jh l.name=false then (false,lets)
  else match chkT lets n l.term with
   | (false,_)=>(false,lets)
   | (true,n2) =>
    if l.kind=0 then (if jH l.name||lets l.name then (false,lets) else qe (za3 lets l.name) checks n2 r)
    else (if checks l.name then (false,lets) else qe lets (za3 checks l.name) n2 r)
structure Pr where
 text:Bs
 deep:Nat
 most:Nat
def ql (w:Pr) (s:Bs):Pr:={ w with text:=w.text++s }
def qI (k:Nat):Nat:=[0,0,1,2,3,4].getD k 0
def za2 (k:Nat):Bs:=[[],[],[124],[38],[92],[59],[94,45,49],[43],[42],[]].getD k []
mutual
def prT:Pr->Trm->Pr
 | w,.mk k nq kids =>
  if k=1 then ql w nq
  else if k=9 then ql (ql (ql w [91]) nq) [93]
  else if k=6\/k=7\/k=8 then ql (prHead w 5 kids) (za2 k.toNat)
  else prTail (ql (ql (ql (prHead w (qI k.toNat) kids) [32]) (za2 k.toNat)) [32]) (qI k.toNat+1) kids
def prHead:Pr->Nat->List Trm->Pr
 | w,_,[]=>w
 | w,least,t::r =>
  if qI t.kind.toNat=0\/qI t.kind.toNat ≥ least then prT w t
  else
   let w2:=prT (ql { w with deep:=w.deep+1,most:=max w.most (w.deep+1) } [40]) t
   { ql w2 [41] with deep:=w2.deep-1 }
def prTail:Pr->Nat->List Trm->Pr
 | w,_,[]=>w
 | w,least,t::r=>prHead w least r
end
def zah (w:Pr) (l:LineD):Pr :=
 let w1:=ql (ql w (zS.getD l.kind [])) [32]
 if l.kind=0 then ql (prT (ql (ql w1 l.name) [32,61,32]) l.term) [10]
 else ql (ql (ql (prT w1 l.term) [32,97,115,32]) l.name) [10]
def jt (l:List LineD):Option (Bs×(Bs->Bool)) :=
 if l.length > 40 then none else
 match qe (fun _=>false) (fun _=>false) 0 l with
 | (false,_)=>none
 | (true,lets) =>
  let w:=l.foldl zah ⟨[],0,0⟩
  if w.text.length > 8192\/w.most > 50 then none else some (w.text,lets)
end Go.Proofs.YtnadlhpkpnfmbaaGreatDoor
namespace Go
open Go.RowKit
abbrev At0 (b:Nat):Value := .pointer (some ⟨b,0,none⟩)
theorem gE {α:Type _} {l:List α} {i:Nat} (h:i<l.length):l[i]?=some l[i]:=Jt h
theorem bAT (a b:Bool):((a&&b)=true)=(a=true/\b=true):=Qi a b
theorem dE {p:Prop} [Decidable p]:(decide p=true)=p:=decide_eq_true_eq
theorem cmo {P:Program} {f:FuncId} {args:Array Value} {w:Wd} {R R':Ending->Wd->Prop} (h:Calls P f args w R) (k:∀ e w',R e w'->R' e w'):Calls P f args w R':=h.mono k
theorem nL {a b c:Nat} (h:a<b) (k:b<=c):a<c:=KF h k
theorem wz (w:Wd) (o:Obj):(w.alloc o).heap.size=w.heap.size+1:=QG w o
theorem lap {α:Type _} {a b:List α}:(a++b).length=a.length+b.length:=List.length_append
theorem tsg {α:Type _} {i:Nat} {l:List α} (h:i<l.length):l.take (i+1)=l.take i++[l[i]]:=Jd h
theorem gDe {α:Type _} {l:List α} {i:Nat} {a:α}:l.getD i a=(l[i]?).getD a:=List.getD_eq_getElem?_getD
theorem gM {α:Type _} {l:List α} {i:Nat} (h:i<l.length):l[i]∈l:=List.getElem_mem h
theorem zdc {n k:Nat} (h:k<n):n-(k+1)<n-k:=by omega
abbrev Bw (w X:Wd):Prop:=Below w.heap.size w X
theorem zst {w X Y:Wd} (a:Below w.heap.size w X) (b:Below X.heap.size X Y):Below w.heap.size w Y:=a.trans (b.mono a.size)
theorem zba (w:Wd) (o:Obj):Below w.heap.size w (w.alloc o):=(Gh _ w).alloc (Gc _) _
theorem dT {p:Prop} [Decidable p] (h:decide p=true):p:=Qd h
theorem dF {p:Prop} [Decidable p] (h:decide p=false):¬ p:=KI h
end Go
namespace Go.Vc
open Go.RowKit
def FR (r:Option Nat):Fence:={ fn:=fun _=>True,depth:=none,alive:=false,round:=r }
abbrev VEnv:=List (Nat×Value)
def VEnv.find:VEnv->Nat->Option Value
 | [],_=>none
 | (k,v)::r,t=>match Nat.beq k t with
  | true=>some v
  | false=>VEnv.find r t
structure Env where
 vs:VEnv
 ds:List Deferred:=[]
def Env.find (E:Env) (t:Nat):Option Value:=VEnv.find E.vs t
inductive TK where
 | other | bool | string | int (k:IntKind) | slice (e esz:Nat) | array (n e esz:Nat) (eagg:Bool) | struct (fs:List (Nat×Nat×Bool)) | map (k v:Nat) | ptr (e:Nat)
structure TI where
 kind:TK
 size:Nat
 agg:Bool
 bytes:Nat
 zero:Option (List Value)
abbrev TT:=List (Nat×TI)
def TT.get:TT->Nat->Option TI
 | [],_=>none
 | (k,v)::r,t=>match Nat.beq k t with
  | true=>some v
  | false=>TT.get r t
def ze6 (d:TypeDesc):Bool:=match d with | .struct _ | .array _ _=>true | _=>false
def zfU (P:Program) (t:Nat):Prop:=(∃ i,P.info? t=some i)/\∃ d,P.underlying t=some d
structure TIok (P:Program) (t:Nat) (i:TI):Prop where
 info:∃ inf,P.info? t=some inf/\inf.size=i.size/\inf.bytes=i.bytes/\∀ z,i.zero=some z->∃ v,inf.zero=some v/\v.cells.toList=z
 desc:∃ d,P.underlying t=some d/\ze6 d=i.agg /\
  match i.kind with
  | .other=>True
  | .bool=>d = .bool
  | .string=>d = .string
  | .int k=>d = .int k
  | .slice e esz=>d = .slice e/\P.cellsOf e=esz/\zfU P e
  | .array n e esz eagg=>d = .array n e/\P.cellsOf e=esz/\((P.underlying e).map ze6).getD false=eagg/\zfU P e
  | .struct fs=>∃ F:Array Field,d = .struct F/\fs=F.toList.map (fun f=>(f.offset,P.cellsOf f.type,((P.underlying f.type).map ze6).getD false))/\∀ f∈F.toList,zfU P f.type
  | .map k v=>d = .map k v
  | .ptr e=>d = .pointer e
def zkg (g:Nat):List Nat->Bool
 | []=>true
 | x::r=>match Nat.beq x g with
  | true=>false
  | false=>zkg g r
structure Sig where
 P:Program
 τ:TT
 n:Nat
 lo:Nat
 hi:Nat
 r:Option Nat:=none
 no:List Nat:=[]
structure SigOk (S:Sig):Prop where
 ty:∀ t i,TT.get S.τ t=some i->TIok S.P t i
 call:∀ g,S.lo<=g->g<S.hi->zkg g S.no=true->∀ args w,(callFunc g args).run S.P w = .ok (.enter g args) w
 mixed:S.P.follows .mixedOrders=true
structure Agrees (S:Sig) (a:Act) (E:Env):Prop where
 size:a.tmps.size=S.n
 defers:a.defers=E.ds
 val:∀ t v,Env.find E t=some v->a.tmps[t]?=some v
def opd (E:Env):Operand->Option Value
 | .tmp t=>Env.find E t
 | .const v=>some v
 | .global g=>some (.pointer (some ⟨g,0,none⟩))
 | .func f=>some (.func (.func f) #[] #[])
theorem Agrees.eval {S:Sig} {a:Act} {E:Env} (h:Agrees S a E) {x:Operand} {v:Value} (hx:opd E x=some v):a.eval x=v:=by
 cases x with
 | tmp t =>
  have:=h.val t v hx;simp [Act.eval,this]
 | const u=>simpa [opd,Act.eval] using hx
 | global g=>simpa [opd,Act.eval] using hx
 | func f=>simpa [opd,Act.eval] using hx
inductive CovL (E:VEnv):VEnv->Prop
 | nil:CovL E []
 | cons {t:Nat} {v:Value} {r:VEnv} (h:VEnv.find E t=some v) (k:CovL E r):CovL E ((t,v)::r)
structure Cov (E E0:Env):Prop where
 c:CovL E.vs E0.vs
 d:E.ds=E0.ds
theorem CovL.find {E E0:VEnv} (h:CovL E E0):∀ t v,VEnv.find E0 t=some v->VEnv.find E t=some v:=by
 induction h with
 | nil=>intro t v h;simp [VEnv.find] at h
 | @cons t u r h _ ih =>
  intro t' v hf;simp only [VEnv.find] at hf
  cases hb:Nat.beq t t' with
  | true =>
   rw [hb] at hf;have:t=t':=JR hb;subst this;simp only [KZ] at hf;subst hf;exact h
  | false=>rw [hb] at hf;exact ih t' v hf
theorem Agrees.cov {S:Sig} {a:Act} {E E0:Env} (h:Agrees S a E) (c:Cov E E0):Agrees S a E0 :=
 ⟨h.size,h.defers.trans c.d,fun t v hf=>h.val t v (c.c.find t v hf)⟩
def zcW (dst:Option Nat) (v:Value) (E:Env):Env:=match dst with | some d=>⟨(d,v)::E.vs,E.ds⟩ | none=>E
def zmK (n:Nat):Option Nat->Bool
 | none=>true
 | some d=>Nat.blt d n
theorem Agrees.put {S:Sig} {a:Act} {E:Env} (h:Agrees S a E) {dst:Option Nat} (hd:zmK S.n dst=true) (v:Value):Agrees S (a.put dst v) (zcW dst v E):=by
 cases dst with
 | none=>exact h
 | some d =>
  have hd':d<S.n:=by simpa [zmK,Gk] using hd
  refine⟨by simp [Act.put,h.size],h.defers,fun t u hf=>?_⟩;simp only [zcW,Env.find,VEnv.find] at hf
  cases hb:Nat.beq d t with
  | true =>
   rw [hb] at hf;have e:d=t:=JR hb;subst e;simp only [KZ] at hf;subst hf;simp [Act.put,h.size,hd']
  | false =>
   rw [hb] at hf;have e:d≠t:=fun e=>by subst e;simp at hb
   have:=h.val t u hf;simp [Act.put,e,this]
def Ar (k:IntKind) (e:Int) (K:Value->Prop):Prop:=∃ r,k.wrap e=r/\K (.int k r)
def zo (w:Wd) (p:Addr) (vs:List Value):Prop:=∀ i v,vs[i]?=some v->w.cell? (p.add i)=some v
def SatR {α:Type} (r:Result α) (K:α->Wd->Prop):Prop:=∃ v w',r = .ok v w'/\K v w'
theorem SatR.mk {α:Type} {r:Result α} {K:α->Wd->Prop} {v:α} {w':Wd} (h:r = .ok v w') (k:K v w'):SatR r K:=⟨v,w',h,k⟩
def Br (b:Bool) (A B:Prop):Prop:=(b=true->A)/\(b=false->B)
def zsw (P:Program) (d:TypeDesc):TK->Bool
 | .other=>true
 | .bool=>(match d with | .bool=>true | _=>false)
 | .string=>(match d with | .string=>true | _=>false)
 | .int k=>(match d with | .int k'=>decide (k'=k) | _=>false)
 | .slice e esz=>(match d with | .slice e'=>Nat.beq e' e&&Nat.beq (P.cellsOf e) esz&&(P.info? e).isSome&&(P.underlying e).isSome | _=>false)
 | .array n e esz eagg=>(match d with | .array n' e'=>Nat.beq n' n&&Nat.beq e' e&&Nat.beq (P.cellsOf e) esz&&(((P.underlying e).map ze6).getD false == eagg)&&(P.info? e).isSome&&(P.underlying e).isSome | _=>false)
 | .struct fs=>(match d with
  | .struct F=>decide (fs=F.toList.map (fun f=>(f.offset,P.cellsOf f.type,((P.underlying f.type).map ze6).getD false)))&&F.toList.all fun f=>(P.info? f.type).isSome&&(P.underlying f.type).isSome
  | _=>false)
 | .map k v=>(match d with | .map k' v'=>Nat.beq k' k&&Nat.beq v' v | _=>false)
 | .ptr e=>(match d with | .pointer e'=>Nat.beq e' e | _=>false)
def zp8 (P:Program) (t:Nat) (i:TI):Bool :=
 match P.underlying t with
 | some d=>(ze6 d == i.agg)&&zsw P d i.kind
 | none=>false
theorem jr {P:Program} {t:Nat} (h1:(P.info? t).isSome=true) (h2:(P.underlying t).isSome=true):zfU P t :=
 ⟨Option.isSome_iff_exists.1 h1,Option.isSome_iff_exists.1 h2⟩
theorem zvs {P:Program} {t:Nat} {i:TI} (h1:(P.info? t).map (fun x=>(x.size,x.bytes))=some (i.size,i.bytes))
  (h2:∀ z,i.zero=some z->((P.info? t).bind (fun x=>x.zero)).map (fun v=>v.cells.toList)=some z) (h3:zp8 P t i=true):TIok P t i:=by
 obtain⟨inf,hi,he⟩:=Option.map_eq_some_iff.1 h1;simp only [UJ] at he;refine⟨⟨inf,hi,he.1,he.2,fun z hz=>?_⟩,?_⟩
 ·have:=h2 z hz;rw [hi] at this;obtain⟨v,hv,hc⟩:=Option.map_eq_some_iff.1 this;exact⟨v,hv,hc⟩
 ·unfold zp8 at h3
  split at h3
  ·rename_i d hd;simp only [bAT,beq_iff_eq] at h3;refine⟨d,hd,h3.1,?_⟩;have h4:=h3.2;generalize i.kind=k at h4
   cases k <;> simp only [zsw] at h4
   case other=>trivial
   case bool=>split at h4 <;> simp_all
   case string=>split at h4 <;> simp_all
   case int k=>split at h4 <;> simp_all
   case slice e esz =>
    split at h4
    ·simp only [bAT] at h4;obtain⟨⟨⟨a,b⟩,c⟩,e⟩:=h4;exact⟨by rw [JR a],JR b,jr c e⟩
    ·cases h4
   case array n e esz eagg =>
    split at h4
    ·simp only [bAT,beq_iff_eq] at h4;obtain⟨⟨⟨⟨⟨a,b⟩,c⟩,e⟩,f⟩,g⟩:=h4;have a':=JR a;have b':=JR b;subst a' b';exact⟨rfl,JR c,e,jr f g⟩
    ·cases h4
   case struct fs =>
    split at h4
    ·rename_i F;simp only [bAT,dE,Qk] at h4;exact⟨F,rfl,h4.1,fun f hf=>jr (h4.2 f hf).1 (h4.2 f hf).2⟩
    ·cases h4
   case map k v =>
    split at h4
    ·simp only [bAT] at h4;rw [JR h4.1,JR h4.2]
    ·cases h4
   case ptr e =>
    split at h4
    ·rw [JR h4]
    ·cases h4
  ·cases h3
inductive TTok (P:Program):TT->Prop
 | nil:TTok P []
 | cons {t:Nat} {i:TI} {r:TT} (h:TIok P t i) (k:TTok P r):TTok P ((t,i)::r)
theorem TTok.get {P:Program}:∀ {τ:TT},TTok P τ->∀ t i,TT.get τ t=some i->TIok P t i
 | [],_,t,i,h=>by simp [TT.get] at h
 | (u,j)::r,.cons hj hr,t,i,h=>by
  simp only [TT.get] at h
  cases hb:Nat.beq u t with
  | true =>
   rw [hb] at h;simp only [KZ] at h;have e:=JR hb;subst e h;exact hj
  | false=>rw [hb] at h;exact hr.get t i h
def zqi (P:Program) (lo hi:Nat) (no:List Nat):Bool :=
 (List.range (hi-lo)).all fun k=>match zkg (lo+k) no with
  | false=>true
  | true=>match P.funcs[lo+k]? with
   | some fn => fn.name != "runtime.NumGoroutine" && fn.body.isSome
   | none=>false
theorem ztR {P:Program} {lo hi:Nat} {no:List Nat} (h:zqi P lo hi no=true):∀ g,lo<=g->g<hi->zkg g no=true->∀ args w,(callFunc g args).run P w = .ok (.enter g args) w:=by
 intro g h1 h2 hn args w;simp only [zqi,Qk,Uq] at h;have h3:=h (g-lo) (by omega);rw [show lo+(g-lo)=g by omega,hn] at h3;dsimp only at h3
 split at h3
 ·rename_i fn hf;simp only [bAT,bne_iff_ne,ne_eq] at h3;simp [callFunc,hf,h3.1,Option.isSome_iff_ne_none.1 h3.2]
 ·cases h3
theorem nm {α:Sort _} (a:α):∃ x,x=a:=⟨a,rfl⟩
def ztJ (E:VEnv):VEnv->List (Option Value)
 | []=>[]
 | (t,_)::r=>VEnv.find E t::ztJ E r
def ztI:VEnv->List (Option Value)
 | []=>[]
 | (_,v)::r=>some v::ztI r
theorem zu6 {E:VEnv}:∀ {E0:VEnv},ztJ E E0=ztI E0->CovL E E0
 | [],_ => .nil
 | (t,v)::r,h => .cons (Jv h) (zu6 (List.tail_eq_of_cons_eq h))
theorem cvE {E E0:Env} (h:ztJ E.vs E0.vs=ztI E0.vs) (d:E.ds=E0.ds):Cov E E0:=⟨zu6 h,d⟩
theorem biE {b:Bool} {A B:Prop} (h:b=true->A) (k:b=false->B):(b=true->A)/\(b=false->B):=⟨h,k⟩
end Go.Vc
namespace Go.Vc
open Go.RowKit
def zR (E:Env) (x:Operand) (f:Value->Prop):Prop:=match opd E x with | some v=>f v | none=>False
def zgu (E:Env):List Operand->(List Value->Prop)->Prop
 | [],f=>f []
 | x::r,f=>zR E x fun v=>zgu E r fun vs=>f (v::vs)
theorem zp {E:Env} {x:Operand} {f:Value->Prop} (h:zR E x f):∃ v,opd E x=some v/\f v:=by
 unfold zR at h
 split at h
 ·exact⟨_,by assumption,h⟩
 ·exact h.elim
theorem zaQ {S:Sig} {E:Env}:∀ {l:List Operand} {f:List Value->Prop},zgu E l f->∃ vs,f vs/\∀ a,Agrees S a E->l.map a.eval=vs
 | [],f,h=>⟨[],h,fun _ _=>rfl⟩
 | x::r,f,h=>by
  obtain⟨v,hv,h⟩:=zp h;obtain⟨vs,hf,ha⟩:=zaQ (S:=S) h;exact⟨v::vs,hf,fun a hag=>by simp only [UE,hag.eval hv,ha a hag]⟩
def znc (P:Program) (m:Sem Value) (K:Value->Prop):Prop:=∃ v,(∀ w,m.run P w = .ok v w)/\K v
def ziF (P:Program) (w:Wd) (m:Sem Value) (K:Value->Prop):Prop:=∃ v,(∀ w2,Bw w w2->m.run P w2 = .ok v w2)/\K v
def kEq (k k':IntKind):Bool:=decide (k=k')
def zru (op:BinOp) (k:IntKind) (a b:Int) (K:Value->Prop):Prop :=
 match op with
 | .lss=>K (.bool (decide (a<b)))
 | .leq=>K (.bool (decide (a<=b)))
 | .gtr=>K (.bool (decide (b<a)))
 | .geq=>K (.bool (decide (b<=a)))
 | .eql=>K (.bool (decide (a=b)))
 | .neq=>K (.bool (!decide (a=b)))
 | .add=>Ar k (a+b) K
 | .sub=>Ar k (a-b) K
 | .mul=>Ar k (a*b) K
 | .quo=>b≠0/\Ar k (a.tdiv b) K
 | .rem=>b≠0/\∃ r,a.tmod b=r/\K (.int k r)
 | .and=>∃ r,k.wrap ((BitVec.ofInt k.bits a&&&BitVec.ofInt k.bits b).toNat)=r/\K (.int k r)
 | .or=>∃ r,k.wrap ((BitVec.ofInt k.bits a|||BitVec.ofInt k.bits b).toNat)=r/\K (.int k r)
 | .xor=>∃ r,k.wrap ((BitVec.ofInt k.bits a ^^^ BitVec.ofInt k.bits b).toNat)=r/\K (.int k r)
 | .andNot=>∃ r,k.wrap ((BitVec.ofInt k.bits a &&& ~~~ BitVec.ofInt k.bits b).toNat)=r/\K (.int k r)
 | _=>False
def zr8 (P:Program) (op:BinOp) (T:TypeId) (x y:Operand) (vx vy:Value) (K:Value->Prop):Prop :=
 match vx,vy with
 | .int k a,.int k' b =>
  match op with
  | .shl=>0<=b/\Ar k (a*2^(min b.toNat k.bits)) K
  | .shr=>0<=b/\∃ r,a.fdiv (2^(min b.toNat k.bits))=r/\K (.int k r)
  | op=>match kEq k k' with
   | true=>zru op k a b K
   | false=>False
 | vx,vy=>znc P (do eqGuard op T x y vx vy;binOp op T vx vy) K
def zjf (o:Option TI) (f:Nat) (g:Nat->Nat->Bool->Prop):Prop :=
 match o with
 | some { kind := .struct fs,.. }=>(match fs[f]? with
  | some (off,sz,agg)=>g off sz agg
  | none=>False)
 | _=>False
def zid (off sz:Nat) (agg:Bool) (cs:List Value) (K:Value->Prop):Prop :=
 match agg with
 | true=>K (.agg ((cs.drop off).take sz).toArray)
 | false=>match cs[off]? with
  | some v=>K v
  | none=>False
def idx (vi:Value) (n:Nat) (g:Nat->Prop):Prop :=
 match vi with
 | .int _ i=>∃ j:Nat,(j:Int)=i/\j<n/\g j
 | _=>False
def zd6 (o:Option TI) (vx vi:Value) (K:Value->Prop):Prop :=
 match o with
 | some { kind := .slice _ esz,.. }=>(match vx with
  | .slice (some ⟨b,o,none⟩) len _=>idx vi len fun j=>K (.pointer (some ⟨b,o+j*esz,none⟩))
  | _=>False)
 | some { kind := .array n _ esz _,.. }=>(match vx with
  | .pointer (some ⟨b,o,none⟩)=>idx vi n fun j=>K (.pointer (some ⟨b,o+j*esz,none⟩))
  | _=>False)
 | _=>False
def bnd (o:Option Value) (dflt top:Nat) (g:Nat->Prop):Prop :=
 match o with
 | none=>g dflt
 | some (.int _ i)=>∃ j:Nat,(j:Int)=i/\j<=top/\g j
 | some _=>False
def qS (base:OA) (m l esz:Nat):OA:=if m=l then base else base.map (·.add (l*esz))
def zlf (o:Option TI) (vx:Value) (lo hi:Option Value) (K:Value->Prop):Prop :=
 match o with
 | some { kind := .slice _ esz,.. }=>(match vx with
  | .slice base len cap=>bnd hi len cap fun h=>bnd lo 0 h fun l=>K (.slice (qS base cap l esz) (h-l) (cap-l))
  | _=>False)
 | some { kind := .array n _ esz _,.. }=>(match vx with
  | .pointer (some a)=>bnd hi n n fun h=>bnd lo 0 h fun l=>K (.slice (qS (some a) n l esz) (h-l) (n-l))
  | _=>False)
 | some { kind := .string,.. }=>(match vx with
  | .string s=>bnd hi s.size s.size fun h=>bnd lo 0 h fun l=>K (.string (s.extract l h))
  | _=>False)
 | _=>False
def zjC (E:Env) (o:Option Operand) (f:Option Value->Prop):Prop :=
 match o with
 | none=>f none
 | some x=>zR E x fun v=>f (some v)
def zbT (l:List Value) (off:Nat):List Value->List Value
 | []=>l
 | v::r=>zbT (l.set off v) (off+1) r
def zcT (place:Nat->Option (Nat×Nat)) (cells:List Value):List (Nat×Value)->Option (List Value)
 | []=>some cells
 | (i,v)::qB=>match place i with
  | none=>none
  | some (off,sz)=>match Nat.beq v.cells.size sz&&Nat.ble (off+sz) cells.length with
   | true=>zcT place (zbT cells off v.cells.toList) qB
   | false=>none
def zfV:List (Nat×Operand)->List Value->List (Nat×Value)
 | (i,_)::r,v::vs=>(i,v)::zfV r vs
 | _,_=>[]
def zfi (fs:List (Nat×Nat×Bool)) (i:Nat):Option (Nat×Nat) :=
 match fs[i]? with
 | some (off,sz,_)=>some (off,sz)
 | none=>none
def zql (o:Option TI) (ps:List (Nat×Operand)) (vs:List Value) (K:Value->Prop):Prop :=
 match o with
 | some { kind := .struct fs,zero:=some z,.. }=>∃ cells,zcT (zfi fs) z (zfV ps vs)=some cells/\K (.agg cells.toArray)
 | some { kind := .array _ _ esz _,zero:=some z,.. }=>∃ cells,zcT (fun i=>some (i*esz,esz)) z (zfV ps vs)=some cells/\K (.agg cells.toArray)
 | _=>False
def zb3 (z:List Value):Nat->List Value
 | 0=>[]
 | n+1=>z++zb3 z n
def isN (op:Op):Bool :=
 match op with
 | .move _ | .assign _ | .pick .. | .binOp .. | .unOp .. | .field .. | .index .. | .fieldAddr .. | .indexAddr .. | .slice .. | .extract .. | .makeFunc .. | .nilCheck _ | .build .. => true
 | _=>false
def zpb (S:Sig) (E:Env) (op:Op) (w:Wd) (K:Value->Prop):Prop :=
 match op with
 | .move x=>zR E x K
 | .assign x=>zR E x K
 | .pick c a b=>zR E c fun vc=>zR E a fun va=>zR E b fun vb=>(match vc with
  | .bool t=>K (match t with | true=>va | false=>vb)
  | _=>False)
 | .binOp op T x y _=>zR E x fun vx=>zR E y fun vy=>zr8 S.P op T x y vx vy K
 | .unOp op _ x=>zR E x fun v=>(match op,v with
  | .not,.bool b=>K (.bool (!b))
  | .neg,.int k n=>Ar k (0-n) K
  | op,v=>znc S.P (Op.unary op v) K)
 | .convert s d x=>zR E x fun v=>(match TT.get S.τ s,TT.get S.τ d,v with
  | some _,some { kind := .int k,.. },.int _ n=>Ar k n K
  | _,_,v=>ziF S.P w (convert s d v) K)
 | .field T x f=>zR E x fun v=>zjf (TT.get S.τ T) f fun off sz agg=>(match v with
  | .agg cs=>zid off sz agg cs.toList K
  | _=>False)
 | .index T x i=>zR E x fun vx=>zR E i fun vi=>(match TT.get S.τ T,vx with
  | some { kind := .array n _ esz eagg,.. },.agg cs=>idx vi n fun j=>zid (j*esz) esz eagg cs.toList K
  | some { kind := .string,.. },.string s=>idx vi s.size fun j=>∃ u,s.data.toList[j]?=some u/\K (.int .u8 u.toNat)
  | _,_=>False)
 | .fieldAddr T x f=>zR E x fun v=>zjf (TT.get S.τ T) f fun off sz _=>(match Nat.beq sz 0 with
  | true=>False
  | false=>(match v with
   | .pointer (some ⟨b,o,none⟩)=>K (.pointer (some ⟨b,o+off,none⟩))
   | _=>False))
 | .indexAddr T x i=>zR E x fun vx=>zR E i fun vi=>zd6 (TT.get S.τ T) vx vi K
 | .slice T x lo hi mx=>zR E x fun vx=>zjC E lo fun l=>zjC E hi fun h=>(match mx with
  | none=>zlf (TT.get S.τ T) vx l h K
  | some _=>False)
 | .lookup T x i ok=>zR E x fun vx=>zR E i fun vi=>ziF S.P w (Instr.lookup T vx vi ok) K
 | .build T ps=>zgu E (ps.toList.map (·.2)) fun vs=>zql (TT.get S.τ T) ps.toList vs K
 | .extract t i=>zR E t fun v=>(match v with
  | .tuple vs=>(match vs.toList[i]? with
   | some u=>K u
   | none=>False)
  | _=>False)
 | .makeFunc fn first captured=>zgu E first.toList fun fs=>zgu E captured.toList fun cs=>K (.func fn fs.toArray cs.toArray)
 | .nilCheck x=>zR E x fun v=>(match v with
  | .pointer (some a)=>K (.pointer (some a))
  | .func (.func f) a b=>K (.func (.func f) a b)
  | _=>False)
 | .load T a=>zR E a fun v=>(match v with
  | .pointer (some p)=>(match TT.get S.τ T with
   | some { agg:=true,size:=sz,.. }=>∃ vs:List Value,vs.length=sz/\zo w p vs/\(p.block<w.heap.size)/\K (.agg vs.toArray)
   | some { agg:=false,.. }=>∃ u,w.cell? p=some u/\K u
   | none=>False)
  | _=>False)
 | .call c=>(match c.callee with
  | .builtin .len=>(match c.args.toList,c.argTypes.toList with
   | [x],[T]=>zR E x fun v=>(match TT.get S.τ T,v with
    | some { kind := .slice _ _,.. },.slice _ n _=>K (.int .i64 n)
    | some { kind := .string,.. },.string s=>K (.int .i64 s.size)
    | some { kind := .array n _ _ _,.. },_=>K (.int .i64 n)
    | _,_=>False)
   | _,_=>False)
  | _=>False)
 | _=>False
section
variable {P:Program} {w:Wd}
theorem zbf (b o:Nat) (j:Nat):(⟨b,o,none⟩:Addr).add j=⟨b,o+j,none⟩:=by
 unfold Addr.add;split <;> simp_all
theorem zpI {op:BinOp} {k:IntKind} {a b:Int} {K:Value->Prop} (T:TypeId) (x y:Operand) (h1:op ≠ .shl) (h2:op ≠ .shr) (h:zru op k a b K) :
  ∃ v,K v/\∀ w,(do eqGuard op T x y (.int k a) (.int k b);binOp op T (.int k a) (.int k b):Sem Value).run P w = .ok v w:=by
 have hg:∀ w,(eqGuard op T x y (.int k a) (.int k b)).run P w = .ok () w:=by
  intro w;unfold eqGuard;cases op <;> simp
 have hb:∀ v,(∀ w,(binOp op T (.int k a) (.int k b)).run P w = .ok v w)->∀ w,(do eqGuard op T x y (.int k a) (.int k b);binOp op T (.int k a) (.int k b):Sem Value).run P w = .ok v w:=by
  intro v hv w;rw [UY,hg w,Qa,hv w]
 cases op <;> simp only [zru] at h
 case lss=>exact⟨_,h,hb _ fun w=>by simp [binOp,Op.intCmp]⟩
 case leq=>exact⟨_,h,hb _ fun w=>by simp [binOp,Op.intCmp]⟩
 case gtr=>exact⟨_,h,hb _ fun w=>by simp [binOp,Op.intCmp]⟩
 case geq=>exact⟨_,h,hb _ fun w=>by simp [binOp,Op.intCmp]⟩
 case eql=>exact⟨_,h,hb _ fun w=>by simp [binOp,Op.intCmp];rfl⟩
 case neq=>exact⟨_,h,hb _ fun w=>by simp [binOp,Op.intCmp];rfl⟩
 case add=>obtain⟨r,e,hk⟩:=h;exact⟨_,hk,hb _ fun w=>by simp [binOp,Op.intArith,e]⟩
 case sub=>obtain⟨r,e,hk⟩:=h;exact⟨_,hk,hb _ fun w=>by simp [binOp,Op.intArith,e]⟩
 case mul=>obtain⟨r,e,hk⟩:=h;exact⟨_,hk,hb _ fun w=>by simp [binOp,Op.intArith,e]⟩
 case quo=>obtain⟨h0,r,e,hk⟩:=h;exact⟨_,hk,hb _ fun w=>by simp [binOp,Op.intDiv,e,h0]⟩
 case rem=>obtain⟨h0,r,e,hk⟩:=h;exact⟨_,hk,hb _ fun w=>by simp [binOp,Op.intDiv,e,h0]⟩
 case and=>obtain⟨r,e,hk⟩:=h;exact⟨_,hk,hb _ fun w=>by simp only [binOp,ne_eq,Qc,Gr,Op.intBits,UZ,e]⟩
 case or=>obtain⟨r,e,hk⟩:=h;exact⟨_,hk,hb _ fun w=>by simp only [binOp,ne_eq,Qc,Gr,Op.intBits,UZ,e]⟩
 case xor=>obtain⟨r,e,hk⟩:=h;exact⟨_,hk,hb _ fun w=>by simp only [binOp,ne_eq,Qc,Gr,Op.intBits,UZ,e]⟩
 case andNot=>obtain⟨r,e,hk⟩:=h;exact⟨_,hk,hb _ fun w=>by simp only [binOp,ne_eq,Qc,Gr,Op.intBits,UZ,e]⟩
theorem zqn {op:BinOp} {T:TypeId} {x y:Operand} {vx vy:Value} {K:Value->Prop} (h:zr8 P op T x y vx vy K) :
  ∃ v,K v/\∀ w,(do eqGuard op T x y vx vy;binOp op T vx vy:Sem Value).run P w = .ok v w:=by
 unfold zr8 at h
 split at h
 ·rename_i k a k' b
  split at h
  ·obtain⟨h0,r,e,hk⟩:=h;exact⟨_,hk,fun w=>by simp [eqGuard,binOp,Op.shift,e,Int.not_lt.2 h0]⟩
  ·obtain⟨h0,r,e,hk⟩:=h;exact⟨_,hk,fun w=>by simp [eqGuard,binOp,Op.shift,e,Int.not_lt.2 h0]⟩
  ·rename_i n1 n2
   split at h
   ·rename_i hk;have:k=k':=(by simpa [kEq] using hk);subst this;exact zpI T x y n1 n2 h
   ·exact h.elim
 ·obtain⟨v,hv,hk⟩:=h;exact⟨v,hk,hv⟩
theorem zic {off sz:Nat} {agg:Bool} {cs:Array Value} {K:Value->Prop} {t:TypeId} (h:zid off sz agg cs.toList K)
  (ha:((P.underlying t).map ze6).getD false=agg) (hs:P.cellsOf t=sz) (hn:zfU P t) :
  ∃ v,K v/\∀ w,(part t cs off).run P w = .ok v w:=by
 obtain⟨⟨i,hi⟩,d,hd⟩:=hn;have hagg:∀ w,(isAgg t).run P w = .ok agg w:=by
  intro w;rw [hd] at ha;simp only [Uf,QE] at ha;simp only [isAgg,UY,Uu hd,Qa];rw [<- ha]
  cases d <;> rfl
 have hsz:∀ w,(sizeOf t).run P w = .ok sz w:=by
  intro w;rw [<- hs];simp [sizeOf,typeInfo,hi,Program.cellsOf]
 unfold zid at h
 split at h
 ·refine⟨_,h,fun w=>?_⟩;simp only [part,UY,hagg w,Qa,Gu,hsz w,UZ];congr 2;apply Qf.1;simp [JT,List.extract_eq_take_drop]
 ·split at h
  ·rename_i v hv;refine⟨_,h,fun w=>?_⟩;have hv':cs[off]?=some v:=by simpa using hv
   simp only [part,UY,hagg w,Qa,hv',Kt,Gr,UZ]
  ·exact h.elim
theorem zaD {t:TypeId} {sz:Nat} (hn:zfU P t) (hs:P.cellsOf t=sz):∀ w,(sizeOf t).run P w = .ok sz w:=by
 intro w;obtain⟨⟨i,hi⟩,_⟩:=hn;rw [<- hs];simp [sizeOf,typeInfo,hi,Program.cellsOf]
theorem zm8 {o:Option Value} {top dflt:Nat} {code:BoundsCode} {g:Nat->Prop} (h:bnd o dflt top g) :
  ∃ j,g j/\j<=(match o with | none=>dflt | some _=>top)/\∀ w,(match o with | some v=>Instr.sliceBound v top code | none=>pure dflt:Sem Nat).run P w = .ok j w:=by
 unfold bnd at h
 split at h
 ·exact⟨dflt,h,Gc _,fun w=>rfl⟩
 ·rename_i k i;obtain⟨j,rfl,hj,hg⟩:=h;refine⟨j,hg,hj,fun w=>?_⟩;have h1:(0:Int)<=(j:Int)/\(j:Int)<=(top:Int):=⟨by omega,by omega⟩;simp [Instr.sliceBound,asIntOf,h1]
 ·exact h.elim
theorem zbg {isSlice:Bool} {len cap:Nat} {lo hi:Option Value} {g:Nat->Nat->Prop} (h:bnd hi len cap fun h=>bnd lo 0 h fun l=>g h l) :
  ∃ l h,g h l/\∀ w,(Instr.sliceBounds isSlice len cap lo hi none).run P w = .ok (l,h,cap) w:=by
 obtain⟨hh,h2,_,r1⟩:=zm8 (P:=P) (code:=if isSlice then .sliceAcap else .sliceAlen) h;obtain⟨l,h3,_,r2⟩:=zm8 (P:=P) (code := .sliceB) h2;refine⟨l,hh,h3,fun w=>?_⟩;have e1:=r1 w;have e2:=r2 w;unfold Instr.sliceBounds
 cases hi <;> cases lo <;> simp_all
theorem zjZ (off:Nat):∀ (vs:List Value) (j:Nat) (l:List Value),((vs.toArray.zipIdx j).foldl (fun cs (c,j)=>cs.setIfInBounds (off+j) c) l.toArray)=(zbT l (off+j) vs).toArray
 | [],j,l=>by rw [<- Kr];simp [zbT]
 | v::r,j,l=>by
  have ih:=zjZ off r (j+1) (l.set (off+j) v);simp only [zbT];rw [<- UH] at ih;rw [<- ih,<- Kr,<- Kr];simp
theorem zeX {place:Nat->Option (Nat×Nat)}:∀ (parts:List (Nat×Value)) (cells out:List Value),zcT place cells parts=some out->Instr.fill place cells.toArray parts=some out.toArray
 | [],cells,out,h=>by simp only [zcT,KZ] at h;subst h;rfl
 | (i,v)::r,cells,out,h=>by
  simp only [zcT] at h
  split at h
  ·cases h
  ·rename_i off sz hp
   split at h
   ·rename_i hc;simp only [bAT,Gj] at hc;have h1:=JR hc.1;have ih:=zeX r _ out h;have e:=zjZ off v.cells.toList 0 cells;simp only [UQ] at e;simp only [Instr.fill,hp,h1,ne_eq,Qc,Ga,Uw,KX,dE,gt_iff_lt];rw [Gw (by omega),<- ih];congr 1
   ·cases h
theorem zgq (z:List Value):∀ n,(zb3 z n).length=n*z.length
 | 0=>by simp [zb3]
 | n+1=>by simp only [zb3,lap,zgq z n,Gb];omega
theorem zjw (z:List Value) (hz:0<z.length):∀ (n i:Nat),i<n*z.length->(zb3 z n)[i]?=z[i%z.length]?
 | 0,i,h=>by omega
 | n+1,i,h=>by
  simp only [zb3,List.getElem?_append]
  split
  ·rename_i hi;rw [QC hi]
  ·rename_i hi;rw [Gb] at h;rw [zjw z hz n (i-z.length) (by omega)];rw [show i%z.length=(i-z.length)%z.length from Nat.mod_eq_sub_mod (by omega)]
theorem zmn (z:List Value) (hz:0<z.length) (n:Nat):((Array.range (n*z.length)).map (z.toArray[· % z.toArray.size]!))=(zb3 z n).toArray:=by
 apply Array.ext
 ·simp [zgq]
 ·intro i h1 h2;have h1':i<n*z.length:=by simpa using h1
  have hm:i%z.length<z.length:=Gl _ hz;have:=zjw z hz n i h1';rw [gE hm] at this;simp only [Array.getElem_map,Array.getElem_range,KX,List.getElem_toArray];have h3:(zb3 z n)[i]?=some (zb3 z n)[i]:=gE (by simpa using h2);rw [h3] at this;simp only [KZ] at this;rw [this,getElem!_pos _ _ (by simpa using hm)];rfl
end
theorem zcK {w w2:Wd} (hb:Bw w w2) {p:Addr} {u:Value} (h:w.cell? p=some u):w2.cell? p=some u :=
 (hb.cell (Jy w p h)).trans h
theorem zeR {vi:Value} {n:Nat} {g:Nat->Prop} (h:idx vi n g):∃ k j,vi = .int k (j:Nat)/\j<n/\g j:=by
 unfold idx at h
 split at h
 ·rename_i k i;obtain⟨j,rfl,hj,hg⟩:=h;exact⟨k,j,rfl,hj,hg⟩
 ·exact h.elim
theorem zfM {P:Program} {w:Wd} {T:Nat} {i:TI} (ht:TIok P T i) (ha:i.agg=true) {p:Addr} {vs:List Value} (hl:vs.length=i.size) (hc:zo w p vs) :
  (loadVar T p).run P w = .ok (.agg vs.toArray) w:=by
 obtain⟨⟨inf,hi,hs,_,_⟩,d,hd,hda,_⟩:=ht;have hagg:(isAgg T).run P w = .ok true w:=by
  simp only [isAgg,UY,Uu hd,Qa];rw [<- ha,<- hda];cases d <;> rfl
 have hsz:(sizeOf T).run P w = .ok vs.length w:=by
  rw [hl,<- hs];simp [sizeOf,typeInfo,hi]
 have hld:=run_loadCells_list (P:=P) w p vs hc;simp only [loadVar,UY,hagg,Qa,Gu,hsz,hld,UZ]
theorem zfL {P:Program} {w:Wd} {T:Nat} {i:TI} (ht:TIok P T i) (ha:i.agg=false) {p:Addr} {u:Value} (hc:w.cell? p=some u) :
  (loadVar T p).run P w = .ok u w:=by
 obtain⟨_,d,hd,hda,_⟩:=ht;have hagg:(isAgg T).run P w = .ok false w:=by
  simp only [isAgg,UY,Uu hd,Qa];rw [<- ha,<- hda];cases d <;> rfl
 simp only [loadVar,UY,hagg,Qa,Kt,Gr,run_load,hc]
theorem zw {w w2:Wd} (hb:Bw w w2) {p:Addr} {vs:List Value} (h:zo w p vs):zo w2 p vs :=
 fun i v hv=>zcK hb (h i v hv)
def ztX (S:Sig) (E:Env) (o:Oper) (w:Wd) (v:Value):Prop :=
 ∀ a,Agrees S a E->∀ w2,(isN o.op=true\/Bw w w2)->(execOp a.eval o).run S.P w2 = .ok (.value v) w2
theorem zhf {S:Sig} (hS:SigOk S) {T:Nat} {vx vi:Value} {K:Value->Prop} (h:zd6 (TT.get S.τ T) vx vi K) :
  ∃ v,K v/\∀ w,(Instr.indexAt T vx vi).run S.P w = .ok v w:=by
 unfold zd6 at h
 split at h
 ·rename_i e esz _ _ _ _ ht;obtain⟨_,d,hd,_,hk⟩:=hS.ty _ _ ht;obtain⟨rfl,he,hn⟩:=hk
  split at h
  ·rename_i b o len cap;obtain⟨k,j,rfl,hj,hg⟩:=zeR h;refine⟨_,hg,fun w=>?_⟩;simp [Instr.indexAt,asIntOf,Uu hd,zaD hn he,hj,zbf]
  ·exact h.elim
 ·rename_i n e esz eagg _ _ _ _ ht;obtain⟨_,d,hd,_,hk⟩:=hS.ty _ _ ht;obtain⟨rfl,he,_,hn⟩:=hk
  split at h
  ·rename_i b o;obtain⟨k,j,rfl,hj,hg⟩:=zeR h;refine⟨_,hg,fun w=>?_⟩;simp [Instr.indexAt,asIntOf,Uu hd,zaD hn he,hj,zbf,Instr.sureAddr]
  ·exact h.elim
 ·exact h.elim
theorem zle {S:Sig} (hS:SigOk S) {T:Nat} {vx:Value} {lo hi:Option Value} {K:Value->Prop} (h:zlf (TT.get S.τ T) vx lo hi K) :
  ∃ v,K v/\∀ w,(Instr.sliceAt T vx lo hi none).run S.P w = .ok v w:=by
 unfold zlf at h
 split at h
 ·rename_i e esz _ _ _ _ ht;obtain⟨_,d,hd,_,hk⟩:=hS.ty _ _ ht;obtain⟨rfl,he,hn⟩:=hk
  split at h
  ·rename_i base len cap;obtain⟨l,hh,hg,hr⟩:=zbg (P:=S.P) (isSlice:=true) h;refine⟨_,hg,fun w=>?_⟩;simp only [Instr.sliceAt,UY,Uu hd,Qa,Instr.slice,hr w,zaD hn he w,UZ,qS]
  ·exact h.elim
 ·rename_i n e esz eagg _ _ _ _ ht;obtain⟨_,d,hd,_,hk⟩:=hS.ty _ _ ht;obtain⟨rfl,he,_,hn⟩:=hk
  split at h
  ·rename_i a;obtain⟨l,hh,hg,hr⟩:=zbg (P:=S.P) (isSlice:=false) h;refine⟨_,hg,fun w=>?_⟩;simp only [Instr.sliceAt,UY,Uu hd,Qa,hr w,zaD hn he w,UZ,Instr.sureAddr,qS]
   split <;> simp_all
  ·exact h.elim
 ·rename_i _ _ _ _ ht;obtain⟨_,d,hd,_,hk⟩:=hS.ty _ _ ht;obtain rfl:=hk
  split at h
  ·rename_i s;obtain⟨l,hh,hg,hr⟩:=zbg (P:=S.P) (isSlice:=false) h;refine⟨_,hg,fun w=>?_⟩;simp only [Instr.sliceAt,UY,Uu hd,Qa,Instr.slice,hr w,UZ,Option.isSome_none,Kt,Gr]
  ·exact h.elim
 ·exact h.elim
theorem zfR {S:Sig} (hS:SigOk S) {T f:Nat} {g:Nat->Nat->Bool->Prop} (h:zjf (TT.get S.τ T) f g) :
  ∃ (F:Array Field) (fd:Field),S.P.underlying T=some (.struct F)/\F[f]?=some fd/\g fd.offset (S.P.cellsOf fd.type) (((S.P.underlying fd.type).map ze6).getD false)/\zfU S.P fd.type:=by
 unfold zjf at h
 split at h
 ·rename_i fs _ _ _ _ ht;obtain⟨_,d,hd,_,hk⟩:=hS.ty _ _ ht;obtain⟨F,rfl,rfl,hn⟩:=hk
  split at h
  ·rename_i off sz agg hf;rw [KU] at hf
   cases hF:F.toList[f]? with
   | none=>rw [hF] at hf;simp at hf
   | some fd =>
    rw [hF] at hf;simp only [Uf,KZ,UJ] at hf;obtain⟨rfl,rfl,rfl⟩:=hf;exact⟨F,fd,hd,by simpa using hF,h,hn fd (JY hF)⟩
  ·exact h.elim
 ·exact h.elim
theorem zfH {S:Sig} (hS:SigOk S) {E:Env} {o:Oper} {w:Wd} {K:Value->Prop} (h:zpb S E o.op w K):∃ v,K v/\ztX S E o w v:=by
 obtain⟨dst,op,type,pos,after,guard⟩:=o
 cases op <;> simp only [zpb] at h
 case move x =>
  obtain⟨v,hv,hk⟩:=zp h;exact⟨v,hk,fun a ha w2 _=>by simp [execOp,ha.eval hv]⟩
 case assign x =>
  obtain⟨v,hv,hk⟩:=zp h;exact⟨v,hk,fun a ha w2 _=>by simp [execOp,ha.eval hv]⟩
 case pick c x y =>
  replace h:=zp h;obtain⟨vc,hc,h⟩:=h;replace h:=zp h;obtain⟨va,hx,h⟩:=h;replace h:=zp h;obtain⟨vb,hy,h⟩:=h
  split at h
  ·rename_i t;refine⟨_,h,fun a ha w2 _=>?_⟩;simp only [execOp,ha.eval hc,ha.eval hx,ha.eval hy,asBool,UY,UZ,Qa]
   cases t <;> rfl
  ·exact h.elim
 case binOp op T x y yt =>
  replace h:=zp h;obtain⟨vx,hx,h⟩:=h;replace h:=zp h;obtain⟨vy,hy,h⟩:=h;obtain⟨v,hk,hr⟩:=zqn h;refine⟨v,hk,fun a ha w2 _=>?_⟩;simp only [execOp,ha.eval hx,ha.eval hy];rw [UY,hr w2];rfl
 case unOp op T x =>
  replace h:=zp h;obtain⟨v,hv,h⟩:=h
  split at h
  ·exact⟨_,h,fun a ha w2 _=>by simp [execOp,ha.eval hv,Op.unary]⟩
  ·obtain⟨r,e,hk⟩:=h;exact⟨_,hk,fun a ha w2 _=>by simp only [Int.zero_sub] at e;simp [execOp,ha.eval hv,Op.unary,Op.intArith,e]⟩
  ·obtain⟨u,hu,hk⟩:=h;exact⟨u,hk,fun a ha w2 _=>by simp only [execOp,ha.eval hv];rw [UY,hu w2];rfl⟩
 case convert s d x =>
  replace h:=zp h;obtain⟨v,hv,h⟩:=h
  split at h
  ·rename_i hs hd;obtain⟨_,ds,hds,_⟩:=hS.ty _ _ hs;obtain⟨_,dd,hdd,_,hk⟩:=hS.ty _ _ hd;obtain rfl:=hk;obtain⟨r,e,hk⟩:=h;refine⟨_,hk,fun a ha w2 _=>?_⟩;simp only [execOp,ha.eval hv,UY,convert,Uu hds,Uu hdd,Qa,Conv.intToInt,UZ,e]
  ·obtain⟨u,hu,hk⟩:=h;exact⟨u,hk,fun a ha w2 hb=>by simp only [execOp,ha.eval hv];rw [UY,hu w2 (hb.resolve_left (by simp [isN]))];rfl⟩
 case field T x f =>
  replace h:=zp h;obtain⟨v,hv,h⟩:=h;obtain⟨F,fd,hu,hf,h,hn⟩:=zfR hS h
  split at h
  ·rename_i cs;obtain⟨v',hk,hr⟩:=zic h rfl rfl hn;refine⟨v',hk,fun a ha w2 _=>?_⟩;simp only [execOp,ha.eval hv,UY,Instr.field,Uu hu,Qa,hf,asAgg,UZ,hr w2]
  ·exact h.elim
 case index T x i =>
  replace h:=zp h;obtain⟨vx,hx,h⟩:=h;replace h:=zp h;obtain⟨vi,hi,h⟩:=h
  split at h
  ·rename_i n e esz eagg _ _ _ _ cs ht;obtain⟨_,d,hd,_,hk⟩:=hS.ty _ _ ht;obtain⟨rfl,he,hag,hn⟩:=hk;obtain⟨k,j,rfl,hj,hg⟩:=zeR h;obtain⟨v',hk,hr⟩:=zic hg hag he hn;refine⟨v',hk,fun a ha w2 _=>?_⟩;have h1:(0:Int)<=(j:Int)/\(j:Int)<(n:Int):=⟨by omega,by omega⟩;simp only [execOp,ha.eval hx,ha.eval hi,UY,Instr.index,asIntOf,UZ,Uu hd,Qa,h1,and_self,Gu,zaD hn he,KL,hr w2]
  ·rename_i s ht;obtain⟨_,d,hd,_,hk⟩:=hS.ty _ _ ht;obtain rfl:=hk;obtain⟨k,j,rfl,hj,u,hu,hg⟩:=zeR h;refine⟨_,hg,fun a ha w2 _=>?_⟩;have hu':s[j]?=some u:=by
    have h2:s.data[j]?=some u:=(by simpa using hu);obtain⟨hlt,e⟩:=Jk.1 h2;rw [getElem?_pos s j hj];exact Gq some e
   simp [execOp,ha.eval hx,ha.eval hi,Instr.index,asIntOf,Uu hd,hu']
  ·exact h.elim
 case fieldAddr T x f =>
  replace h:=zp h;obtain⟨v,hv,h⟩:=h;obtain⟨F,fd,hu,hf,h,hn⟩:=zfR hS h
  split at h
  ·exact h.elim
  ·rename_i hz;have hz':S.P.cellsOf fd.type≠0:=fun e=>by rw [e] at hz;simp at hz
   split at h
   ·rename_i b o;refine⟨_,h,fun a ha w2 _=>?_⟩;simp only [execOp,ha.eval hv,UY,Instr.fieldAt,Uu hu,Qa,hf,UZ,Instr.sureAddr,fieldPlace,zaD hn rfl w2,hz',Gr,zbf]
   ·exact h.elim
 case indexAddr T x i =>
  replace h:=zp h;obtain⟨vx,hx,h⟩:=h;replace h:=zp h;obtain⟨vi,hi,h⟩:=h;obtain⟨v,hk,hr⟩:=zhf hS h;exact⟨v,hk,fun a ha w2 _=>by simp only [execOp,ha.eval hx,ha.eval hi];rw [UY,hr w2];rfl⟩
 case slice T x lo hi mx =>
  replace h:=zp h;obtain⟨vx,hx,h⟩:=h;have oe:∀ {o:Option Operand} {f:Option Value->Prop},zjC E o f->∃ ov,f ov/\∀ a,Agrees S a E->o.map a.eval=ov:=by
   intro o f h
   cases o with
   | none=>exact⟨none,h,fun _ _=>rfl⟩
   | some x=>obtain⟨v,hv,hf⟩:=zp h;exact⟨some v,hf,fun a ha=>by simp [ha.eval hv]⟩
  obtain⟨l,h,hl⟩:=oe h;obtain⟨hh,h,hhh⟩:=oe h
  split at h
  ·obtain⟨v,hk,hr⟩:=zle hS h;exact⟨v,hk,fun a ha w2 _=>by simp only [execOp,ha.eval hx,hl a ha,hhh a ha,Option.map_none];rw [UY,hr w2];rfl⟩
  ·exact h.elim
 case lookup T x i ok =>
  replace h:=zp h;obtain⟨vx,hx,h⟩:=h;replace h:=zp h;obtain⟨vi,hi,u,hu,hk⟩:=h;exact⟨u,hk,fun a ha w2 hb=>by simp only [execOp,ha.eval hx,ha.eval hi];rw [UY,hu w2 (hb.resolve_left (by simp [isN]))];rfl⟩
 case build T ps =>
  obtain⟨vs,h,hvs⟩:=zaQ (S:=S) h;have e:∀ a,Agrees S a E->(ps.map fun (i,x)=>(i,a.eval x)).toList=zfV ps.toList vs:=fun a ha=>by
   rw [<- hvs a ha];simp only [Qg,UL];generalize ps.toList=l
   induction l with
   | nil=>rfl
   | cons p r ih=>obtain⟨i,x⟩:=p;simp only [UE,Ke,zfV,ih]
  unfold zql at h
  split at h
  ·rename_i fs _ _ _ z ht;obtain⟨⟨inf,hi,_,_,hzz⟩,d,hd,_,hk⟩:=hS.ty _ _ ht;obtain⟨F,rfl,rfl,hkn⟩:=hk;obtain⟨zv,hzv,hzc⟩:=hzz z rfl;obtain⟨cells,hf,hk⟩:=h;refine⟨_,hk,fun a ha w2 _=>?_⟩;have hzr:(zeroValue T).run S.P w2 = .ok zv w2:=by simp [zeroValue,typeInfo,hi,hzv]
   have hpl:(F.mapM fun f=>do pure (f.offset,<- sizeOf f.type):Sem (Array (Nat×Nat))).run S.P w2 = .ok (F.map fun f=>(f.offset,S.P.cellsOf f.type)) w2:=by
    rw [Array.mapM_eq_mapM_toList,Sem.run_map];have key:∀ l:List Field,(∀ f∈l,zfU S.P f.type)->(l.mapM fun f=>do pure (f.offset,<- sizeOf f.type):Sem (List (Nat×Nat))).run S.P w2 = .ok (l.map fun f=>(f.offset,S.P.cellsOf f.type)) w2:=by
     intro l
     induction l with
     | nil=>intro _;rfl
     | cons f r ih =>
      intro hl;simp only [Up,UY,zaD (hl f Kz) rfl w2,Qa,UZ,ih (fun g hg=>hl g (JW _ hg)),UE]
    rw [key F.toList hkn];simp only [Qa];congr 1;rw [<- Qf];simp
   have hfl:=zeX _ _ _ hf;have hplace:(fun i=>(F.map fun f=>(f.offset,S.P.cellsOf f.type))[i]?)=zfi (F.toList.map fun f=>(f.offset,S.P.cellsOf f.type,((S.P.underlying f.type).map ze6).getD false)):=by
    funext i;simp only [zfi,KU,Array.getElem?_map,Array.getElem?_toList]
    cases F[i]? <;> rfl
   simp only [execOp,UY,Instr.build,hzr,Qa,Uu hd,hpl];rw [hplace,e a ha];have hz2:zv.cells=z.toArray:=by rw [<- hzc]
   rw [hz2,hfl];rfl
  ·rename_i n e0 esz eagg _ _ _ z ht;obtain⟨⟨inf,hi,_,_,hzz⟩,d,hd,_,hk⟩:=hS.ty _ _ ht;obtain⟨rfl,he,_,hkn⟩:=hk;obtain⟨zv,hzv,hzc⟩:=hzz z rfl;obtain⟨cells,hf,hk⟩:=h;refine⟨_,hk,fun a ha w2 _=>?_⟩;have hzr:(zeroValue T).run S.P w2 = .ok zv w2:=by simp [zeroValue,typeInfo,hi,hzv]
   have hfl:=zeX _ _ _ hf;simp only [execOp,UY,Instr.build,hzr,Qa,Uu hd,zaD hkn he w2];rw [e a ha];have hz2:zv.cells=z.toArray:=by rw [<- hzc]
   rw [hz2,hfl];rfl
  ·exact h.elim
 case extract t i =>
  replace h:=zp h;obtain⟨v,hv,h⟩:=h
  split at h
  ·rename_i vs
   split at h
   ·rename_i u hu;refine⟨_,h,fun a ha w2 _=>?_⟩;have hu':vs[i]?=some u:=(by simpa using hu);simp [execOp,ha.eval hv,Instr.extract,hu']
   ·exact h.elim
  ·exact h.elim
 case makeFunc fn first captured =>
  obtain⟨fs,h,hf⟩:=zaQ (S:=S) h;obtain⟨cs,h,hc⟩:=zaQ (S:=S) h;refine⟨_,h,fun a ha w2 _=>?_⟩;have e1:first.map a.eval=fs.toArray:=by rw [<- hf a ha,<- Qg]
  have e2:captured.map a.eval=cs.toArray:=by rw [<- hc a ha,<- Qg]
  simp [execOp,Instr.makeFunc,e1,e2]
 case nilCheck x =>
  replace h:=zp h;obtain⟨v,hv,h⟩:=h
  split at h
  ·exact⟨_,h,fun a ha w2 _=>by simp [execOp,ha.eval hv]⟩
  ·exact⟨_,h,fun a ha w2 _=>by simp [execOp,ha.eval hv]⟩
  ·exact h.elim
 case load T x =>
  replace h:=zp h;obtain⟨v,hv,h⟩:=h
  split at h
  ·split at h
   ·rename_i sz _ _ ht;obtain⟨vs,hl,hc,_,hk⟩:=h;refine⟨_,hk,fun a ha w2 hb=>?_⟩;replace hb:=hb.resolve_left (by simp [isN]);simp only [execOp,ha.eval hv,UY,Instr.loadAt,Instr.sureAddr,UZ,Qa,zfM (hS.ty _ _ ht) rfl hl (zw hb hc)]
   ·rename_i _ _ _ _ ht;obtain⟨u,hc,hk⟩:=h;refine⟨_,hk,fun a ha w2 hb=>?_⟩;replace hb:=hb.resolve_left (by simp [isN]);simp only [execOp,ha.eval hv,UY,Instr.loadAt,Instr.sureAddr,UZ,Qa,zfL (hS.ty _ _ ht) rfl (zcK hb hc)]
   ·exact h.elim
  ·exact h.elim
 case call c =>
  obtain⟨callee,args,argTypes⟩:=c
  split at h
  ·rename_i hc;dsimp only at hc;subst hc
   split at h
   ·rename_i x T hx hT;have ex:args = #[x]:=(by rw [<- Qf];simpa using hx);have eT:argTypes = #[T]:=(by rw [<- Qf];simpa using hT);subst ex eT;replace h:=zp h;obtain⟨v,hv,h⟩:=h
    split at h
    ·rename_i e esz _ _ _ _ a n c ht;obtain⟨_,d,hd,_,hk⟩:=hS.ty _ _ ht;obtain⟨rfl,_⟩:=hk;exact⟨_,h,fun a ha w2 _=>by simp [execOp,resolve,invoke,builtin,Builtin.len_,ha.eval hv,Uu hd,goInt]⟩
    ·rename_i _ _ _ _ s ht;obtain⟨_,d,hd,_,hk⟩:=hS.ty _ _ ht;obtain rfl:=hk;exact⟨_,h,fun a ha w2 _=>by simp [execOp,resolve,invoke,builtin,Builtin.len_,ha.eval hv,Uu hd,goInt]⟩
    ·rename_i n e esz eagg _ _ _ _ ht;obtain⟨_,d,hd,_,hk⟩:=hS.ty _ _ ht;obtain⟨rfl,_⟩:=hk;refine⟨_,h,fun a ha w2 _=>?_⟩;simp [execOp,resolve,invoke,builtin,Builtin.len_,ha.eval hv,Uu hd,goInt]
    ·exact h.elim
   ·exact h.elim
  ·exact h.elim
def NN:Nat:=1000
def CallR (P:Program) (g:Nat) (args:Array Value) (w:Wd) (K:Value->Wd->Prop) (KP:List PanicEntry->Wd->Prop):Prop :=
 Calls P g args w fun e w'=>match e with
  | .returned v=>K v w'
  | .panicked ch=>KP ch w'
  | .outgrown=>False
theorem CallR.mk {P:Program} {g:Nat} {args:Array Value} {w:Wd} {K:Value->Wd->Prop} {KP:List PanicEntry->Wd->Prop} {R:Ending->Wd->Prop}
  (h:Calls P g args w R) (k:∀ e w',R e w'->∃ v,e = .returned v/\K v w'):CallR P g args w K KP :=
 h.mono fun e w' r=>by obtain⟨v,rfl,hk⟩:=k e w' r;exact hk
def YieldR (P:Program) (l:Nat) (args:Array Value) (w:Wd) (K:Value->Wd->Prop):Prop :=
 YieldAt (FR none) (NN-1) P l args w fun e w'=>match e with
  | .returned v=>K v w'
  | _=>False
def jK (S:Sig) (g:Nat):Bool:=Nat.ble S.lo g&&Nat.blt g S.hi&&zkg g S.no
def zm6 (S:Sig) (vf:Value) (vs:List Value) (w:Wd) (K:Value->Wd->Prop) (KP:List PanicEntry->Wd->Prop):Prop :=
 match vf with
 | .func (.func g) first captured=>(match jK S g with
  | true=>CallR S.P g (first.toList++vs++captured.toList).toArray w K KP
  | false=>False)
 | .func (.yield l) first _=>YieldR S.P l (first.toList++vs).toArray w K
 | .func fn first captured=>∃ g args,(invoke (.fn fn captured) (first.toList++vs).toArray).run S.P w = .ok (.enter g args) w/\CallR S.P g args w K KP
 | _=>False
def zkU (S:Sig) (b:Builtin) (argTypes:Array TypeId) (type:TypeId) (vs:List Value) (w:Wd) (K:Value->Wd->Prop) (KP:List PanicEntry->Wd->Prop):Prop :=
 match b with
 | .append=>SatR ((Builtin.append_ argTypes type vs.toArray).run S.P w) K
 | .copy=>SatR ((Builtin.copy_ argTypes type vs.toArray).run S.P w) K
 | .cap=>SatR ((Builtin.cap_ argTypes type vs.toArray).run S.P w) K
 | .len=>SatR ((Builtin.len_ argTypes type vs.toArray).run S.P w) K
 | .min=>SatR ((Builtin.min_ argTypes type vs.toArray).run S.P w) K
 | .max=>SatR ((Builtin.max_ argTypes type vs.toArray).run S.P w) K
 | .delete=>SatR ((Builtin.delete_ argTypes type vs.toArray).run S.P w) K
 | .clear=>SatR ((Builtin.clear_ argTypes type vs.toArray).run S.P w) K
 | .panic=>∃ v w',(Instr.panic (vs.toArray.getD 0 .nilIface)).run S.P w = .halt (.panic v) w'/\KP [{ v,recovered:=false }] w'
 | _=>False
def zrQ (S:Sig) (E:Env) (o:Oper) (w:Wd) (K:Value->Wd->Prop) (KP:List PanicEntry->Wd->Prop):Prop :=
 match o.op with
 | .alloc T=>(match TT.get S.τ T with
  | some { zero:=some z,.. }=>K (.pointer (some ⟨w.heap.size,0,none⟩)) (w.alloc (.cells z.toArray T))
  | _=>False)
 | .box T x=>zR E x fun v=>K (.pointer (some ⟨w.heap.size,0,none⟩)) (w.alloc (.cells v.cells T))
 | .buildSlice T n ps=>zgu E (ps.toList.map (·.2)) fun vs=>(match TT.get S.τ T with
  | some { kind := .slice e esz,.. }=>(match TT.get S.τ e with
   | some { zero:=some z,.. }=>(n*esz<=16777216/\0<esz/\z.length=esz)/\∃ cells:List Value,
     zcT (fun i=>some (i*esz,esz)) (zb3 z n) (zfV ps.toList vs)=some cells /\
     K (.slice (some ⟨w.heap.size,0,none⟩) n n) (w.alloc (.cells cells.toArray e))
   | _=>False)
  | _=>False)
 | .store T a x=>zR E a fun va=>zR E x fun vx=>(match va with
  | .pointer (some p)=>SatR ((storeVar T p vx).run S.P w) fun _ w'=>K undef w'
  | _=>False)
 | .makeSlice T l c=>zR E l fun vl=>zR E c fun vc=>SatR ((Instr.makeSlice T vl vc).run S.P w) K
 | .makeMap T r=>zjC E r fun vr=>SatR ((Instr.makeMap T vr).run S.P w) K
 | .makeInterface T x=>zR E x fun v=>SatR ((Instr.makeInterface T v).run S.P w) K
 | .mapUpdate T m k x=>zR E m fun vm=>zR E k fun vk=>zR E x fun vx=>SatR ((Instr.mapUpdate T vm vk vx).run S.P w) fun _ w'=>K undef w'
 | .insert T m k x=>zR E m fun vm=>zR E k fun vk=>zR E x fun vx=>SatR ((Instr.mapUpdate T vm vk vx).run S.P w) fun _ w'=>K undef w'
 | .mapEntry T m k=>zR E m fun vm=>zR E k fun vk=>SatR ((Instr.mapEntry T vm vk).run S.P w) K
 | .entryStore T m s x=>zR E m fun vm=>zR E s fun vs=>zR E x fun vx=>SatR ((Instr.entryStore T vm vs vx).run S.P w) fun _ w'=>K undef w'
 | .range T x=>zR E x fun v=>SatR ((Instr.range T v).run S.P w) K
 | .next it s=>zR E it fun v=>SatR ((Instr.next v s o.type).run S.P w) K
 | .entry it=>zR E it fun v=>SatR ((Instr.entry v).run S.P w) K
 | .typeAssert x T a ok=>zR E x fun v=>SatR ((Instr.typeAssert v T a ok).run S.P w) K
 | .nilCheck x=>zR E x fun v=>SatR ((execOp (fun _=>v) { o with op := .nilCheck (.tmp 0) }).run S.P w) fun nx w'=>(match nx with
  | .value u=>K u w'
  | _=>False)
 | .panic x=>zR E x fun v=>∃ u w',(Instr.panic v).run S.P w = .halt (.panic u) w'/\KP [{ v:=u,recovered:=false }] w'
 | .call c=>zgu E c.args.toList fun vs=>(match c.callee with
  | .value f=>zR E f fun vf=>zm6 S vf vs w K KP
  | .builtin b=>zkU S b c.argTypes o.type vs w K KP
  | .invoke r m=>zR E r fun vr=>∃ g args,(callMethod vr m vs.toArray).run S.P w = .ok (.enter g args) w/\CallR S.P g args w K KP)
 | _=>False
theorem zcJ {P:Program} {r:Option Nat} {n g:Nat} {args:Array Value} {w:Wd} {R:Ending->Wd->Prop} (h:Calls P g args w R):CallsIn (FR r) n P g args w R:=by
 have h1:CallsIn Fence.wide n P g args w R:=callsIn_wide.2 h;exact⟨trivial,fun cs _=>h1.2 cs (room_wide _)⟩
theorem SatR.elim {α:Type} {r:Result α} {K:α->Wd->Prop} (h:SatR r K):∃ v w',r = .ok v w'/\K v w':=h
section
variable {S:Sig} {E:Env} {o:Oper} {w:Wd} {K:Value->Wd->Prop} {KP:List PanicEntry->Wd->Prop} {a:Act} {n:Nat}
 {next:Act->Wd->Prop} {Q:Exit->Act->Wd->Prop}
def UponE (S:Sig) (n:Nat) (o:Oper) (a:Act) (w:Wd) (next:Act->Wd->Prop) (Q:Exit->Act->Wd->Prop):Prop :=
 match (execOp a.eval o).run S.P w with
 | .ok (.value v) w'=>next (a.put o.dst v) w'
 | .ok .skip w'=>next (a.put o.dst undef) w'
 | .ok (.enter f args) w'=>CallsIn (FR S.r) (n-1) S.P f args w' fun
   | .returned v,w''=>next (a.put o.dst v) w''
   | .panicked chain,w''=>Q (.panic chain) a w''
   | .outgrown,_=>False
 | .ok (.round l f tmps assign body) w'=>RoundIn (FR S.r) (n-1) S.P l f tmps assign body w' fun
   | .returned v,w''=>next (a.put o.dst v) w''
   | .panicked chain,w''=>Q (.panic chain) a w''
   | .outgrown,_=>False
 | .halt (.panic v) w'=>Q (.panic [{ v,recovered:=false }]) a w'
 | _=>False
theorem UponE.wpIn (hd:∀ c,o.op ≠ .defer c) (h:UponE S n o a w next Q):o.wpIn (FR S.r) n S.P a w next Q:=by
 refine⟨fun _ _=>trivial,?_⟩;rw [Oper.semAt_eq _ _ _ hd];unfold UponE at h
 split at h
 case h_1 hr=>rw [hr];exact h
 case h_2 hr=>rw [hr];exact h
 case h_3 hr =>
  rw [hr,Oper.uponIn_enter];exact⟨fun h=>by simp [FR] at h,h.mono fun e w'' he=>by cases e <;> first | exact he | exact he.elim⟩
 case h_4 hr =>
  rw [hr,Oper.uponIn_round];exact⟨fun h=>by simp [FR] at h,h.mono fun e w'' he=>by cases e <;> first | exact he | exact he.elim⟩
 case h_5 hr=>rw [hr];exact h
 case h_6=>exact h.elim
theorem qi {v:Value} {w':Wd} (_hd:∀ c,o.op ≠ .defer c) (hr:(execOp a.eval o).run S.P w = .ok (.value v) w') (hk:next (a.put o.dst v) w') :
  UponE S n o a w next Q:=by unfold UponE;rw [hr];exact hk
theorem zct {w':Wd} (_hd:∀ c,o.op ≠ .defer c) (hr:(execOp a.eval o).run S.P w = .ok .skip w') (hk:next (a.put o.dst undef) w') :
  UponE S n o a w next Q:=by unfold UponE;rw [hr];exact hk
theorem zgt {v:Value} {w':Wd} (_hd:∀ c,o.op ≠ .defer c) (hr:(execOp a.eval o).run S.P w = .halt (.panic v) w') (hk:Q (.panic [{ v,recovered:=false }]) a w') :
  UponE S n o a w next Q:=by unfold UponE;rw [hr];exact hk
theorem zdP {g:Nat} {args:Array Value} {w':Wd} (_hd:∀ c,o.op ≠ .defer c) (hr:(execOp a.eval o).run S.P w = .ok (.enter g args) w') (hc:CallR S.P g args w' K KP)
  (hn:∀ v w',K v w'->next (a.put o.dst v) w') (hp:∀ ch w',KP ch w'->Q (.panic ch) a w') :
  UponE S n o a w next Q:=by
 unfold UponE;rw [hr];refine zcJ (hc.mono fun e w'' he=>?_)
 cases e with
 | returned v=>exact hn _ _ he
 | panicked ch=>exact hp _ _ he
 | outgrown=>exact he.elim
theorem zbO {P:Program} {r r':Option Nat} {n n' l g:Nat} {tmps:Array Value} {assign body:Code} {w:Wd} {R:Ending->Wd->Prop} (h:RoundIn (FR r) n P l g tmps assign body w R) :
  RoundIn (FR r') n' P l g tmps assign body w R :=
 ⟨trivial,fun c cs _=>h.2 c cs (fun d hd=>by simp [FR] at hd)⟩
theorem zeb (hS:SigOk S) (h:zrQ S E o w K KP) (ha:Agrees S a E)
  (hn:∀ v w',K v w'->next (a.put o.dst v) w') (hp:∀ ch w',KP ch w'->Q (.panic ch) a w'):UponE S n o a w next Q:=by
 obtain⟨dst,op,type,pos,after,guard⟩:=o;have oe:∀ {o:Option Operand} {f:Option Value->Prop},zjC E o f->∃ ov,f ov/\o.map a.eval=ov:=by
  intro o f h
  cases o with
  | none=>exact⟨none,h,rfl⟩
  | some x=>obtain⟨v,hv,hf⟩:=zp h;exact⟨some v,hf,by simp [ha.eval hv]⟩
 cases op <;> simp only [zrQ] at h
 case alloc T =>
  split at h
  ·rename_i z ht;obtain⟨⟨inf,hi,_,_,hzz⟩,_⟩:=hS.ty _ _ ht;obtain⟨v,hz,hc⟩:=hzz z rfl;refine qi (fun c=>by simp) ?_ (hn _ _ h);have hzv:(zeroValue T).run S.P w = .ok v w:=by simp [zeroValue,typeInfo,hi,hz]
   have e:v.cells=z.toArray:=by rw [<- hc]
   simp [execOp,Instr.alloc,hzv,newVar,newRow,newObj,Sem.run,e]
  ·exact h.elim
 case box T x =>
  obtain⟨v,hv,h'⟩:=zp h;refine qi (fun c=>by simp) ?_ (hn _ _ h');simp [execOp,Instr.box,ha.eval hv,newVar,newRow,newObj,Sem.run]
 case buildSlice T k ps =>
  obtain⟨vs,h',hvs⟩:=zaQ (S:=S) h;have e:(ps.map fun (i,x)=>(i,a.eval x)).toList=zfV ps.toList vs:=by
   rw [<- hvs a ha];simp only [Qg,UL];generalize ps.toList=l
   induction l with
   | nil=>rfl
   | cons p r ih=>obtain⟨i,x⟩:=p;simp only [UE,Ke,zfV,ih]
  split at h'
  ·rename_i e1 esz _ _ _ _ ht
   split at h'
   ·rename_i z hte;obtain⟨_,d,hd,_,hk⟩:=hS.ty _ _ ht;obtain⟨rfl,he,hkn⟩:=hk;obtain⟨⟨inf,hi,_,_,hzz⟩,_⟩:=hS.ty _ _ hte;obtain⟨v,hz,hc⟩:=hzz z rfl;obtain⟨⟨hle,hpos,hlen⟩,cells,hf,hk⟩:=h';have hf:=zeX _ _ _ hf;subst hlen;rw [<- zmn z hpos k] at hf;refine qi (fun c=>by simp) ?_ (hn _ _ hk);have hzv:∀ w,(zeroValue e1).run S.P w = .ok v w:=(by intro w;simp [zeroValue,typeInfo,hi,hz]);have ec:v.cells=z.toArray:=(by rw [<- hc]);have hle':¬ (k*z.length > 2^24):=(by omega);simp only [execOp,Instr.buildSlice,UY,Uu hd,Qa,zaD hkn he w,hle',Gr];by_cases h0:k*z.length=0
    ·rw [e];simp only [h0,Gu,UY,UZ,Qa];rw [h0] at hf;have e0:(Array.map (fun x=>(#[]:Array Value)[x%(#[]:Array Value).size]!) (Array.range 0))=(Array.map (fun x=>z.toArray[x%z.toArray.size]!) (Array.range 0)):=(by simp);rw [e0,hf];simp [newRow,newObj,Sem.run]
    ·rw [e];simp only [h0,Gr,UY,hzv,Qa,UZ,ec,hf];simp [newRow,newObj,Sem.run]
   ·exact h'.elim
  ·exact h'.elim
 case store T x y =>
  obtain⟨va,hva,h'⟩:=zp h;obtain⟨vx,hvx,h'⟩:=zp h'
  split at h'
  ·obtain⟨_,w',hr,hk⟩:=SatR.elim h';refine zct (fun c=>by simp) ?_ (hn _ _ hk);simp only [execOp,ha.eval hva,ha.eval hvx,Instr.storeAt,Instr.sureAddr,UY,UZ,Qa,hr]
  ·exact h'.elim
 case makeSlice T l c =>
  obtain⟨vl,hl,h'⟩:=zp h;obtain⟨vc,hc,h'⟩:=zp h';obtain⟨v,w',hr,hk⟩:=SatR.elim h';refine qi (fun c=>by simp) ?_ (hn _ _ hk);simp only [execOp,ha.eval hl,ha.eval hc];rw [UY,hr];rfl
 case makeMap T r =>
  obtain⟨vr,h',hvr⟩:=oe h;obtain⟨v,w',hr,hk⟩:=SatR.elim h';refine qi (fun c=>by simp) ?_ (hn _ _ hk);simp only [execOp,hvr];rw [UY,hr];rfl
 case makeInterface T x =>
  obtain⟨vx,hx,h'⟩:=zp h;obtain⟨v,w',hr,hk⟩:=SatR.elim h';refine qi (fun c=>by simp) ?_ (hn _ _ hk);simp only [execOp,ha.eval hx];rw [UY,hr];rfl
 case mapUpdate T m k x =>
  obtain⟨vm,hm,h'⟩:=zp h;obtain⟨vk,hk,h'⟩:=zp h';obtain⟨vx,hx,h'⟩:=zp h';obtain⟨v,w',hr,hkk⟩:=SatR.elim h';refine zct (fun c=>by simp) ?_ (hn _ _ hkk);simp only [execOp,ha.eval hm,ha.eval hk,ha.eval hx];rw [UY,hr];rfl
 case insert T m k x =>
  obtain⟨vm,hm,h'⟩:=zp h;obtain⟨vk,hk,h'⟩:=zp h';obtain⟨vx,hx,h'⟩:=zp h';obtain⟨v,w',hr,hkk⟩:=SatR.elim h';refine zct (fun c=>by simp) ?_ (hn _ _ hkk);simp only [execOp,ha.eval hm,ha.eval hk,ha.eval hx];rw [UY,hr];rfl
 case mapEntry T m k =>
  obtain⟨vm,hm,h'⟩:=zp h;obtain⟨vk,hk,h'⟩:=zp h';obtain⟨v,w',hr,hkk⟩:=SatR.elim h';refine qi (fun c=>by simp) ?_ (hn _ _ hkk);simp only [execOp,ha.eval hm,ha.eval hk];rw [UY,hr];rfl
 case entryStore T m k x =>
  obtain⟨vm,hm,h'⟩:=zp h;obtain⟨vk,hk,h'⟩:=zp h';obtain⟨vx,hx,h'⟩:=zp h';obtain⟨v,w',hr,hkk⟩:=SatR.elim h';refine zct (fun c=>by simp) ?_ (hn _ _ hkk);simp only [execOp,ha.eval hm,ha.eval hk,ha.eval hx];rw [UY,hr];rfl
 case range T x =>
  obtain⟨vx,hx,h'⟩:=zp h;obtain⟨v,w',hr,hk⟩:=SatR.elim h';refine qi (fun c=>by simp) ?_ (hn _ _ hk);simp only [execOp,ha.eval hx];rw [UY,hr];rfl
 case next it s =>
  obtain⟨vx,hx,h'⟩:=zp h;obtain⟨v,w',hr,hk⟩:=SatR.elim h';refine qi (fun c=>by simp) ?_ (hn _ _ hk);simp only [execOp,ha.eval hx];rw [UY,hr];rfl
 case entry it =>
  obtain⟨vx,hx,h'⟩:=zp h;obtain⟨v,w',hr,hk⟩:=SatR.elim h';refine qi (fun c=>by simp) ?_ (hn _ _ hk);simp only [execOp,ha.eval hx];rw [UY,hr];rfl
 case typeAssert x T y ok =>
  obtain⟨vx,hx,h'⟩:=zp h;obtain⟨v,w',hr,hk⟩:=SatR.elim h';refine qi (fun c=>by simp) ?_ (hn _ _ hk);simp only [execOp,ha.eval hx];rw [UY,hr];rfl
 case nilCheck x =>
  obtain⟨vx,hx,h'⟩:=zp h;obtain⟨nx,w',hr,hk⟩:=SatR.elim h'
  split at hk
  ·refine qi (fun c=>by simp) ?_ (hn _ _ hk);simp only [execOp,ha.eval hx];simpa only [execOp] using hr
  ·exact hk.elim
 case panic x =>
  obtain⟨vx,hx,u,w',hr,hk⟩:=zp h;refine zgt (fun c=>by simp) ?_ (hp _ _ hk);simp only [execOp,ha.eval hx];rw [UY,hr];rfl
 case call c =>
  obtain⟨callee,args,argTypes⟩:=c;obtain⟨vs,h',hvs⟩:=zaQ (S:=S) h;have ev:args.map a.eval=vs.toArray:=by rw [<- hvs a ha,<- Qg]
  dsimp only at h'
  split at h'
  ·rename_i f;obtain⟨vf,hf,h'⟩:=zp h';unfold zm6 at h'
   split at h'
   ·rename_i g first captured
    split at h'
    ·rename_i hok;simp only [jK,bAT,Gj,Gk] at hok;refine zdP (fun c=>by simp) ?_ h' hn hp;have e2:first++vs.toArray++captured=(first.toList++vs++captured.toList).toArray:=by
      rw [<- Qf];simp
     simp only [execOp,resolve,ev,ha.eval hf,Deferred.ofValue,UY,UZ,Qa,invoke,e2];exact hS.call g hok.1.1 hok.1.2 hok.2 _ _
    ·exact h'.elim
   ·rename_i l first captured
    obtain⟨fn,tmps,assign,body,hy,hR⟩:=h';have e2:first++vs.toArray=(first.toList++vs).toArray:=by
     rw [<- Qf];simp
    have hr:(execOp a.eval ⟨dst,.call ⟨.value f,args,argTypes⟩,type,pos,after,guard⟩).run S.P w = .ok (.round l fn tmps assign body) w:=by
     simp only [execOp,resolve,ev,ha.eval hf,Deferred.ofValue,UY,UZ,Qa,invoke,e2];exact hy
    unfold UponE;rw [hr];refine zbO (hR.mono fun e w'' he=>?_)
    cases e with
    | returned v=>exact hn _ _ he
    | panicked ch=>exact he.elim
    | outgrown=>exact he.elim
   ·rename_i fn first captured _ _
    obtain⟨g,args',hi,hc⟩:=h';refine zdP (fun c=>by simp) ?_ hc hn hp;have e2:first++vs.toArray=(first.toList++vs).toArray:=by
     rw [<- Qf];simp
    simp only [execOp,resolve,ev,ha.eval hf,Deferred.ofValue,UY,UZ,Qa,e2];exact hi
   ·exact h'.elim
  ·rename_i b;unfold zkU at h'
   split at h'
   case h_9 =>
    obtain⟨u,w',hr,hk⟩:=h';refine zgt (fun c=>by simp) ?_ (hp _ _ hk);simp only [execOp,resolve,ev,invoke,builtin,UY,UZ,Qa,hr,Result.andThen_halt]
   case h_10=>exact h'.elim
   all_goals
    obtain⟨v,w',hr,hk⟩:=SatR.elim h';refine qi (fun c=>by simp) ?_ (hn _ _ hk);simp only [execOp,resolve,ev,invoke,builtin,UY,UZ,Qa,hr]
  ·rename_i r m;obtain⟨vr,hvr,g,args',hi,hc⟩:=zp h';refine zdP (fun c=>by simp) ?_ hc hn hp;have hx:(#[vr]++vs.toArray).extract 1 (#[vr]++vs.toArray).size=vs.toArray:=by
    rw [<- Qf];simp
   have h0:(#[vr]++vs.toArray)[0]?=some vr:=by simp
   simp only [execOp,resolve,ev,ha.eval hvr,UY,UZ,Qa,invoke,h0,hx];exact hi
end
def zd4 (τ : TT) (op : Op) : Bool :=
  match op with
  | .move _ | .assign _ | .pick .. | .binOp .. | .unOp .. | .convert .. | .field .. | .index .. | .fieldAddr .. | .indexAddr .. | .slice .. | .extract .. | .makeFunc .. | .nilCheck _ | .load .. | .lookup .. | .build .. => true
  | .call c => (match c.callee with
    | .builtin .len => (match c.argTypes.toList with
      | [T] => (match TT.get τ T with
        | some { kind := .map _ _, .. } => false
        | _ => true)
      | _ => true)
    | _ => false)
  | _ => false
def zhN (i : Nat) : List Nat → Bool
  | [] => false
  | k :: r => match Nat.beq k i with
    | true => true
    | false => zhN i r
def jg (op : Op) : Bool := match op with | .select .. | .defer .. | .go .. => false | _ => true
def PV (P : Program) (o : Oper) (a : Act) (w : Wd) (v : Value) : Prop := ∀ w2, (isN o.op = true ∨ Below w.heap.size w w2) → (execOp a.eval o).run P w2 = .ok (.value v) w2
def PQ (QP : List PanicEntry → Wd → Prop) : Exit → Act → Wd → Prop := fun ex _ w => match ex with
  | .panic ch => QP ch w
  | _ => False
def jd (S : Sig) (X : List Nat) (n : Nat) (QP : List PanicEntry → Wd → Prop) (ops : Array Oper) (i : Nat) (K : Act → Wd → Prop) (a : Act) (w : Wd) : Prop :=
  match ops[i]? with
  | none => K a w
  | some o => if Region.wanted o (yielded ops a.tmps) then
      (if zd4 S.τ o.op then ∃ v, PV S.P o a w v ∧ K (a.put o.dst v) w
       else UponE S n o a w (fun a' w' => (zhN i X = false → Below w.heap.size w w') ∧ K a' w') (PQ QP))
    else K (a.put o.dst undef) w
def zg1 (S : Sig) (X : List Nat) (n : Nat) (QP : List PanicEntry → Wd → Prop) (ops : Array Oper) (K : Act → Wd → Prop) : List Nat → Act → Wd → Prop
  | [], a, w => K a w
  | i :: r, a, w => jd S X n QP ops i (zg1 S X n QP ops K r) a w
section
variable {S : Sig} {X : List Nat} {n : Nat} {QP : List PanicEntry → Wd → Prop} {ops : Array Oper}
theorem zdQ {o : Oper} {a a' : Act} {w : Wd} {next next' : Act → Wd → Prop} (he : execOp a'.eval o = execOp a.eval o)
    (hn : ∀ u w', next (a'.put o.dst u) w' → next' (a.put o.dst u) w') (h : UponE S n o a' w next (PQ QP)) : UponE S n o a w next' (PQ QP) := by
  unfold UponE at *
  rw [he] at h
  split at h
  · exact hn _ _ h
  · exact hn _ _ h
  · exact CallsIn.mono h fun e w'' he => by cases e <;> first | exact hn _ _ he | exact he
  · exact RoundIn.mono h fun e w'' he => by cases e <;> first | exact hn _ _ he | exact he
  · exact h
  · exact h
theorem zdT {i : Nat} {K K' : Act → Wd → Prop} {a : Act} {w : Wd} (h : ∀ a w, K a w → K' a w) (hh : jd S X n QP ops i K a w) : jd S X n QP ops i K' a w := by
  unfold jd at *
  split
  · rename_i ho; simp only [ho] at hh; exact h _ _ hh
  · rename_i o ho
    simp only [ho] at hh
    split
    · rename_i hw
      simp only [hw, Gu] at hh
      split
      · rename_i hp; simp only [hp, Gu] at hh; obtain ⟨v, h1, h2⟩ := hh; exact ⟨v, h1, h _ _ h2⟩
      · rename_i hp; simp only [hp, Kt, Gr] at hh; exact zdQ rfl (fun u w' hk => ⟨hk.1, h _ _ hk.2⟩) hh
    · rename_i hw; simp only [hw] at hh; exact h _ _ hh
structure Indep (S : Sig) (X : List Nat) (ops : Array Oper) (k i : Nat) : Prop where
  h : ∀ ok oi, ops[k]? = some ok → ops[i]? = some oi → ok.apart ops oi = true ∧ zd4 S.τ ok.op = true ∧ jg ok.op = true ∧ jg oi.op = true ∧ (zd4 S.τ oi.op = true ∨ zhN i X = false ∨ isN ok.op = true)
theorem zfl {op : Op} (h : jg op = true) : ∀ cs b, op ≠ .select cs b := fun cs b e => by subst e; simp [jg] at h
theorem zaw {op : Op} (h : jg op = true) : ∀ c, op ≠ .defer c := fun c e => by subst e; simp [jg] at h
theorem PV.below {P : Program} {o : Oper} {a : Act} {w w' : Wd} {v : Value} (h : PV P o a w v) (hb : isN o.op = true ∨ Below w.heap.size w w') : PV P o a w' v :=
  fun w2 h2 => h w2 (by rcases hb with hb | hb
                        · exact .inl hb
                        · exact h2.imp id (fun h2 => hb.trans (h2.mono hb.size)))
theorem zdS {k i : Nat} (hk : Indep S X ops k i) {K : Act → Wd → Prop} {a : Act} {w : Wd} (h : jd S X n QP ops k (jd S X n QP ops i K) a w) : jd S X n QP ops i (jd S X n QP ops k K) a w := by
  cases hok : ops[k]? with
  | none =>
    have e : ∀ K', jd S X n QP ops k K' = K' := fun K' => by funext a w; simp [jd, hok]
    rw [e] at h ⊢; exact h
  | some ok =>
    cases hoi : ops[i]? with
    | none =>
      have e : ∀ K', jd S X n QP ops i K' = K' := fun K' => by funext a w; simp [jd, hoi]
      rw [e] at h; rw [e]; exact h
    | some oi =>
      obtain ⟨hap, hp, hsk, hsi, hx⟩ := hk.h ok oi hok hoi
      obtain ⟨h1, h2, h3⟩ := Oper.apart_spec hap
      have core : ∀ v, ((Region.wanted ok (yielded ops a.tmps) = true ∧ PV S.P ok a w v) ∨ (Region.wanted ok (yielded ops a.tmps) = false ∧ v = undef)) →
          jd S X n QP ops i K (a.put ok.dst v) w → jd S X n QP ops i (jd S X n QP ops k K) a w := by
        intro v hv h
        have after : ∀ u w', (isN ok.op = true ∨ Below w.heap.size w w') → K ((a.put ok.dst v).put oi.dst u) w' → jd S X n QP ops k K (a.put oi.dst u) w' := by
          intro u w' hb hK
          unfold jd
          simp only [hok, hp, Gu]
          rw [wanted_put ok a oi.dst u h3]
          rw [Act.put_comm a v u h2] at hK
          rcases hv with ⟨hw, hpv⟩ | ⟨hw, rfl⟩
          · simp only [hw, Gu]
            refine ⟨v, fun w2 h2 => ?_, hK⟩
            rw [execOp_put ok (zfl hsk) a oi.dst u h3]
            exact (hpv.below hb) w2 h2
          · simp only [hw]; exact hK
        unfold jd at h ⊢
        simp only [hoi] at h ⊢
        rw [wanted_put oi a ok.dst v h1] at h
        split
        · rename_i hwi
          simp only [hwi, Gu] at h
          split
          · rename_i hpi
            simp only [hpi, Gu] at h
            obtain ⟨u, hu, hK⟩ := h
            refine ⟨u, fun w2 hb => ?_, after u w (.inr (Gh _ _)) hK⟩
            have := hu w2 hb
            rwa [execOp_put oi (zfl hsi) a ok.dst v h1] at this
          · rename_i hpi
            simp only [hpi, Kt, Gr] at h
            exact zdQ (execOp_put oi (zfl hsi) a ok.dst v h1) (fun u w' hh => ⟨hh.1, after u w' ((hx.resolve_left hpi).elim (fun hm => .inr (hh.1 hm)) .inl) hh.2⟩) h
        · rename_i hwi
          simp only [hwi] at h
          exact after undef w (.inr (Gh _ _)) h
      have h' := h
      unfold jd at h
      simp only [hok, hp, Gu] at h
      cases hw : Region.wanted ok (yielded ops a.tmps) with
      | true =>
        simp only [hw, Gu] at h
        obtain ⟨v, hv, hK⟩ := h
        exact core v (.inl ⟨hw, hv⟩) hK
      | false =>
        simp only [hw] at h
        exact core undef (.inr ⟨hw, rfl⟩) h
theorem zfN {K : Act → Wd → Prop} {i : Nat} : ∀ (L : List Nat), L.Nodup → i ∈ L → (∀ k, [k, i].Sublist L → Indep S X ops k i) → ∀ (a : Act) (w : Wd), zg1 S X n QP ops K L a w →
    jd S X n QP ops i (zg1 S X n QP ops K (L.filter (· ≠ i))) a w
  | [], _, hi, _, _, _, _ => by simp at hi
  | k :: r, hn, hi, hind, a, w, h => by
    obtain ⟨hkr, hr⟩ := QX.1 hn
    by_cases hki : k = i
    · subst hki
      have e : (k :: r).filter (· ≠ k) = r := by
        rw [Qo]
        simp only [ne_eq, Qc, Ga, Kt, Gr]
        exact List.filter_eq_self.2 fun x hx => by simp; rintro rfl; exact hkr hx
      rw [e]
      exact h
    · have hir : i ∈ r := by
        cases hi with
        | head => exact Gy rfl hki
        | tail _ h => exact h
      have e : (k :: r).filter (· ≠ i) = k :: r.filter (· ≠ i) := by
        rw [Qo]; simp [hki]
      rw [e]
      have hik : Indep S X ops k i := hind k (List.Sublist.cons_cons k (List.singleton_sublist.2 hir))
      have h2 : jd S X n QP ops k (jd S X n QP ops i (zg1 S X n QP ops K (r.filter (· ≠ i)))) a w :=
        zdT (fun a w hh => zfN r hr hir (fun k' hs => hind k' (hs.cons k)) a w hh) h
      exact zdS hik h2
def zel (ops : Array Oper) : Nat → Nat → Nat → Bool
  | 0, _, _ => false
  | f + 1, k, i => match ops[i]? with
    | some o => o.after.toList.any fun e => Region.binds .any e && (Nat.beq e.on k || (Nat.blt k e.on && zel ops f k e.on))
    | none => false
theorem zcu {L : Array Bool} (hc : ∀ j o, L.getD j false = true → ops[j]? = some o → ∀ e ∈ o.after, Region.binds .any e = true → L.getD e.on false = true) :
    ∀ (f k i : Nat) (o : Oper), ops[i]? = some o → (∀ e ∈ o.after, Region.binds .any e = true → L.getD e.on false = true) → zel ops f k i = true → L.getD k false = true
  | 0, _, _, _, _, _, h => by simp [zel] at h
  | f + 1, k, i, o, ho, hl, h => by
    simp only [zel, ho, Ql, Qi, QI, Array.mem_toList_iff] at h
    obtain ⟨e, he, hb, h⟩ := h
    rcases h with h | ⟨_, h⟩
    · have := JR h
      subst this
      exact hl e he hb
    · cases hj : ops[e.on]? with
      | none => cases f <;> simp [zel, hj] at h
      | some oj => exact zcu hc f k e.on oj hj (fun e' he' hb' => hc e.on oj (hl e he hb) hj e' he' hb') h
structure OrdOk (S : Sig) (X : List Nat) (ops : Array Oper) (L : List Nat) : Prop where
  nodup : L.Nodup
  mem : ∀ i, i ∈ L ↔ i < ops.size
  pair : ∀ k i, [k, i].Sublist L → (∃ f, zel ops f k i = true) ∨ Indep S X ops k i
  topo : ∀ i o e, ops[i]? = some o → e ∈ o.after → Region.binds .any e = true → [e.on, i].Sublist L
theorem zkh {x y : Nat} (hne : x ≠ y) : ∀ {L : List Nat}, L.Nodup → [x, y].Sublist L → [y, x].Sublist L → False
  | [], _, h, _ => by cases h
  | z :: r, hn, h, h' => by
    obtain ⟨hz, hr⟩ := QX.1 hn
    cases h with
    | cons _ h =>
      cases h' with
      | cons _ h' => exact zkh hne hr h h'
      | cons_cons _ h' => exact hz (h.subset (by simp))
    | cons_cons _ h =>
      cases h' with
      | cons _ h' => exact hz (h'.subset (by simp))
      | cons_cons _ h' => exact hne rfl
theorem zqP {o : Oper} {a : Act} {w : Wd} {next : Act → Wd → Prop} {Q : Exit → Act → Wd → Prop} (hQ : ∀ ch w, QP ch w → Q (.panic ch) a w) (h : UponE S n o a w next (PQ QP)) : UponE S n o a w next Q := by
  unfold UponE at *
  split at h
  · exact h
  · exact h
  · exact CallsIn.mono h fun e w'' he => by cases e <;> first | exact hQ _ _ he | exact he
  · exact RoundIn.mono h fun e w'' he => by cases e <;> first | exact hQ _ _ he | exact he
  · exact hQ _ _ h
  · exact h
theorem zb4 {Q : Exit → Act → Wd → Prop} {i : Nat} {o : Oper} {K K' : Act → Wd → Prop} {a : Act} {w : Wd} (hsel : jg o.op = true) (ho : ops[i]? = some o)
    (hQ : ∀ ch w, QP ch w → Q (.panic ch) a w) (hnext : ∀ u w, K (a.put o.dst u) w → K' (a.put o.dst u) w) (h2 : jd S X n QP ops i K a w) : wpOpIn (FR S.r) n S.P ops Q i K' a w := by
  unfold wpOpIn
  unfold jd at h2
  simp only [ho] at h2 ⊢
  split
  · rename_i hw
    simp only [hw, Gu] at h2
    split at h2
    · obtain ⟨v, hv, hK⟩ := h2
      exact (qi (S := S) (Q := Q) (zaw hsel) (hv w (.inr (Gh _ _))) (hnext _ _ hK)).wpIn (zaw hsel)
    · have h3 : UponE S n o a w K' (PQ QP) := zdQ rfl (fun u w' hh => hnext _ _ hh.2) h2
      exact (zqP hQ h3).wpIn (zaw hsel)
  · rename_i hw
    simp only [hw] at h2
    exact ⟨fun _ _ => trivial, hnext _ _ h2⟩
theorem zfT {Q : Exit → Act → Wd → Prop} {I : Act → Prop} (hI : ∀ a dst v, I a → I (a.put dst v)) (hQ : ∀ ch a w, I a → QP ch w → Q (.panic ch) a w) (hS : ∀ o, o ∈ ops → jg o.op = true) {L0 : List Nat} (hO : OrdOk S X ops L0) :
    ∀ (m : Nat) (L : List Nat) (listed : Array Bool) (a : Act) (w : Wd), L.length = m → L.Sublist L0 → listed.size = ops.size → (∀ i, i ∈ L ↔ (i < ops.size ∧ listed.getD i false = false)) →
      (∀ j o, listed.getD j false = true → ops[j]? = some o → ∀ e ∈ o.after, Region.binds .any e = true → listed.getD e.on false = true) →
      I a → zg1 S X n QP ops (fun a w => Q .normal a w) L a w → wpAnyIn (FR S.r) n S.P .any ops Q m listed a w
  | 0, L, listed, a, w, hm, _, hsz, hmem, _, _, h => by
    have hL : L = [] := Jf hm
    subst hL
    refine ⟨?_, h⟩
    rw [Je]
    intro i hi
    obtain ⟨hl, o, ho, _⟩ := mem_ready.1 hi
    have hlt : i < ops.size := (Jk.1 ho).1
    have : i ∈ ([] : List Nat) := (hmem i).2 ⟨hlt, by
      have hls : i < listed.size := by omega
      simp [hls] at hl ⊢; exact hl⟩
    simp at this
  | m + 1, L, listed, a, w, hm, hsub, hsz, hmem, hcl, hia, h => by
    have hnd : L.Nodup := hO.nodup.sublist hsub
    have hget : ∀ i, i < ops.size → (listed.getD i true = false ↔ listed.getD i false = false) := fun i hi => by
      have hls : i < listed.size := by omega
      simp [hls]
    have hready : ∀ i, i ∈ Region.ready .any ops listed → i ∈ L := fun i hi => by
      obtain ⟨hl, o, ho, _⟩ := mem_ready.1 hi
      have hlt : i < ops.size := (Jk.1 ho).1
      exact (hmem i).2 ⟨hlt, (hget i hlt).1 hl⟩
    refine ⟨fun h0 => ?_, fun i hi => ?_⟩
    ·
      exfalso
      cases L with
      | nil => simp at hm
      | cons i r =>
        have hil := (hmem i).1 Kz
        have : i ∈ Region.ready .any ops listed := by
          refine mem_ready.2 ⟨(hget i hil.1).2 hil.2, ops[i], Jm hil.1, fun e he hb => ?_⟩
          have ht := hO.topo i _ e (Jm hil.1) he hb
          cases hle : listed.getD e.on false with
          | true => rfl
          | false =>
            exfalso
            have heo : e.on < ops.size := (hO.mem e.on).1 (ht.subset (by simp))
            have hel : e.on ∈ i :: r := (hmem e.on).2 ⟨heo, hle⟩
            have hne : e.on ≠ i := fun he => by
              have := hO.nodup.sublist ht
              simp [he] at this
            have hir : e.on ∈ r := by
              cases hel with
              | head => exact Gy rfl hne
              | tail _ h => exact h
            have h1 : [i, e.on].Sublist L0 := (List.Sublist.cons_cons i (List.singleton_sublist.2 hir)).trans hsub
            exact (zkh hne hO.nodup ht h1).elim
        rw [h0] at this
        simp at this
    · have hiL := hready i hi
      obtain ⟨hl, o, ho, hall⟩ := mem_ready.1 hi
      have hlt : i < ops.size := (Jk.1 ho).1
      have hind : ∀ k, [k, i].Sublist L → Indep S X ops k i := fun k hs => by
        rcases hO.pair k i (hs.trans hsub) with ⟨f, hf⟩ | hind
        · exfalso
          have hk : k ∈ L := hs.subset (by simp)
          have h1 := ((hmem k).1 hk).2
          have h2 := zcu hcl f k i o ho hall hf
          rw [h1] at h2; simp at h2
        · exact hind
      have h2 := zfN L hnd hiL hind a w h
      have hnext : ∀ a w, I a → zg1 S X n QP ops (fun a w => Q .normal a w) (L.filter (· ≠ i)) a w → wpAnyIn (FR S.r) n S.P .any ops Q m (listed.setIfInBounds i true) a w := fun a w hia hh => by
        refine zfT hI hQ hS hO m _ _ a w ?_ (List.filter_sublist.trans hsub) (by simpa using hsz) ?_ ?_ hia hh
        · have : (L.filter (· ≠ i)) = L.erase i := by rw [hnd.erase_eq_filter]; exact KR fun x _ => by by_cases h : x = i <;> simp [h]
          rw [this, List.length_erase_of_mem hiL]; omega
        · intro j
          rw [QV, hmem j]
          by_cases hji : j = i
          · subst hji
            simp [hsz, hlt]
          · have hij : ¬ i = j := fun e => hji e.symm
            simp [hji, hij]
        · intro j oj hj hoj e he hb
          by_cases hji : j = i
          · subst hji
            rw [ho] at hoj; cases hoj
            have := hall e he hb
            by_cases hei : e.on = j
            · simp [hei, hsz, hlt]
            · have hei' : ¬ j = e.on := fun e => hei e.symm
              simpa [Jh, hei'] using this
          · have hij : ¬ i = j := fun e => hji e.symm
            have hj' : listed.getD j false = true := by simpa [Jh, hij] using hj
            have := hcl j oj hj' hoj e he hb
            by_cases hei : e.on = i
            · simp [hei, hsz, hlt]
            · have hei' : ¬ i = e.on := fun e => hei e.symm
              simpa [Jh, hei'] using this
      exact zb4 (hS o (JI ho)) ho (fun ch w => hQ ch a w hia) (fun u w => hnext _ w (hI _ _ _ hia)) h2
inductive OT where
  | nil
  | op (i : Nat) (t : OT)
  | alt (a b : OT)
def zcP (S : Sig) (X : List Nat) (n : Nat) (QP : List PanicEntry → Wd → Prop) (ops : Array Oper) (K : Act → Wd → Prop) : OT → Act → Wd → Prop
  | .nil, a, w => K a w
  | .op i t, a, w => jd S X n QP ops i (zcP S X n QP ops K t) a w
  | .alt x y, a, w => zcP S X n QP ops K x a w ∧ zcP S X n QP ops K y a w
def OT.first (ind : Nat → Nat → Bool) (i : Nat) : OT → Option OT
  | .nil => none
  | .op k t => if k = i then some t else if ind k i = true then (OT.first ind i t).map (.op k) else none
  | .alt x y => match OT.first ind i x with
    | some x' => some x'
    | none => OT.first ind i y
theorem zbK {K : Act → Wd → Prop} {i : Nat} {ind : Nat → Nat → Bool} (hind : ∀ k, ind k i = true → Indep S X ops k i) : ∀ (T T' : OT), OT.first ind i T = some T' → ∀ (a : Act) (w : Wd), zcP S X n QP ops K T a w →
    jd S X n QP ops i (zcP S X n QP ops K T') a w
  | .nil, _, h, _, _, _ => by simp [OT.first] at h
  | .op k t, T', h, a, w, hh => by
    simp only [OT.first] at h
    split at h
    · rename_i e
      subst e
      cases h
      exact hh
    · split at h
      · rename_i hk
        obtain ⟨t', ht', rfl⟩ := Option.map_eq_some_iff.1 h
        exact zdS (hind k hk) (zdT (fun a w hh => zbK hind t t' ht' a w hh) hh)
      · cases h
  | .alt x y, T', h, a, w, hh => by
    simp only [OT.first] at h
    split at h
    · rename_i u hx
      simp only [KZ] at h
      subst h
      exact zbK hind x u hx a w hh.1
    · exact zbK hind y T' h a w hh.2
def zlZ (ind : Nat → Nat → Bool) (ops : Array Oper) : Nat → Array Bool → OT → Bool
  | 0, listed, T => (Region.ready .any ops listed).isEmpty && (match T with | .nil => true | _ => false)
  | m + 1, listed, T => !(Region.ready .any ops listed).isEmpty && (Region.ready .any ops listed).all fun i =>
      match OT.first ind i T with
      | some T' => zlZ ind ops m (listed.setIfInBounds i true) T'
      | none => false
theorem zfS {Q : Exit → Act → Wd → Prop} {I : Act → Prop} (hI : ∀ a dst v, I a → I (a.put dst v)) (hQ : ∀ ch a w, I a → QP ch w → Q (.panic ch) a w) (hS : ∀ o, o ∈ ops → jg o.op = true) {ind : Nat → Nat → Bool} (hind : ∀ k i, ind k i = true → Indep S X ops k i) :
    ∀ (m : Nat) (listed : Array Bool) (T : OT) (a : Act) (w : Wd), zlZ ind ops m listed T = true →
      I a → zcP S X n QP ops (fun a w => Q .normal a w) T a w → wpAnyIn (FR S.r) n S.P .any ops Q m listed a w
  | 0, listed, T, a, w, hc, _, h => by
    simp only [zlZ, Qi, Qs] at hc
    obtain ⟨h1, h2⟩ := hc
    split at h2
    · exact ⟨h1, h⟩
    · cases h2
  | m + 1, listed, T, a, w, hc, hia, h => by
    simp only [zlZ, Qi, KJ, Jr, Qk] at hc
    refine ⟨fun h0 => Gy h0 hc.1, fun i hi => ?_⟩
    obtain ⟨_, o, ho, _⟩ := mem_ready.1 hi
    have hc' := hc.2 i hi
    split at hc'
    · rename_i T' hT'
      have h2 := zbK (fun k hk => hind k i hk) T T' hT' a w h
      have hnext : ∀ a w, I a → zcP S X n QP ops (fun a w => Q .normal a w) T' a w → wpAnyIn (FR S.r) n S.P .any ops Q m (listed.setIfInBounds i true) a w := fun a w hia hh =>
        zfS hI hQ hS hind m _ T' a w hc' hia hh
      exact zb4 (hS o (JI ho)) ho (fun ch w => hQ ch a w hia) (fun u w => hnext _ w (hI _ _ _ hia)) h2
    · cases hc'
end
def OT.firsts (ind : Nat → Nat → Bool) (i : Nat) : OT → List OT
  | .nil => []
  | .op k t => if k = i then [t] else if ind k i = true then (OT.firsts ind i t).map (.op k) else []
  | .alt x y => OT.firsts ind i x ++ OT.firsts ind i y
def zkM (ind : Nat → Nat → Bool) (ops : Array Oper) : Nat → Array Bool → OT → Bool
  | 0, listed, T => (Region.ready .any ops listed).isEmpty && (match T with | .nil => true | _ => false)
  | m + 1, listed, T => !(Region.ready .any ops listed).isEmpty && (Region.ready .any ops listed).all fun i =>
      (OT.firsts ind i T).any fun T' => zkM ind ops m (listed.setIfInBounds i true) T'
section
variable {S : Sig} {X : List Nat} {n : Nat} {QP : List PanicEntry → Wd → Prop} {ops : Array Oper}
theorem zbn {K : Act → Wd → Prop} {i : Nat} {ind : Nat → Nat → Bool} (hind : ∀ k, ind k i = true → Indep S X ops k i) : ∀ (T T' : OT), T' ∈ OT.firsts ind i T → ∀ (a : Act) (w : Wd), zcP S X n QP ops K T a w →
    jd S X n QP ops i (zcP S X n QP ops K T') a w
  | .nil, _, h, _, _, _ => by simp [OT.firsts] at h
  | .op k t, T', h, a, w, hh => by
    simp only [OT.firsts] at h
    split at h
    · rename_i e
      subst e
      rw [KA] at h
      subst h
      exact hh
    · split at h
      · rename_i hk
        obtain ⟨t', ht', rfl⟩ := UO.1 h
        exact zdS (hind k hk) (zdT (fun a w hh => zbn hind t t' ht' a w hh) hh)
      · cases h
  | .alt x y, T', h, a, w, hh => by
    simp only [OT.firsts, QU] at h
    rcases h with h | h
    · exact zbn hind x T' h a w hh.1
    · exact zbn hind y T' h a w hh.2
theorem zcM {Q : Exit → Act → Wd → Prop} {I : Act → Prop} (hI : ∀ a dst v, I a → I (a.put dst v)) (hQ : ∀ ch a w, I a → QP ch w → Q (.panic ch) a w) (hS : ∀ o, o ∈ ops → jg o.op = true) {ind : Nat → Nat → Bool} (hind : ∀ k i, ind k i = true → Indep S X ops k i) :
    ∀ (m : Nat) (listed : Array Bool) (T : OT) (a : Act) (w : Wd), zkM ind ops m listed T = true →
      I a → zcP S X n QP ops (fun a w => Q .normal a w) T a w → wpAnyIn (FR S.r) n S.P .any ops Q m listed a w
  | 0, listed, T, a, w, hc, _, h => by
    simp only [zkM, Qi, Qs] at hc
    obtain ⟨h1, h2⟩ := hc
    split at h2
    · exact ⟨h1, h⟩
    · cases h2
  | m + 1, listed, T, a, w, hc, hia, h => by
    simp only [zkM, Qi, KJ, Jr, Qk] at hc
    refine ⟨fun h0 => Gy h0 hc.1, fun i hi => ?_⟩
    obtain ⟨_, o, ho, _⟩ := mem_ready.1 hi
    have hc' := hc.2 i hi
    rw [Ql] at hc'
    obtain ⟨T', hT', hc'⟩ := hc'
    have h2 := zbn (fun k hk => hind k i hk) T T' hT' a w h
    have hnext : ∀ a w, I a → zcP S X n QP ops (fun a w => Q .normal a w) T' a w → wpAnyIn (FR S.r) n S.P .any ops Q m (listed.setIfInBounds i true) a w := fun a w hia hh =>
      zcM hI hQ hS hind m _ T' a w hc' hia hh
    exact zb4 (hS o (JI ho)) ho (fun ch w => hQ ch a w hia) (fun u w => hnext _ w (hI _ _ _ hia)) h2
end
def zrt (all : List Oper) (i : Nat) : Bool := all.any fun o => match o.guard with | some (j, _) => Nat.beq j i | none => false
def zsU (g : Bool) (v : Value) (K : Value → Prop) : Prop :=
  match g with
  | true => (match v with
    | .bool b => Br b (K (.bool true)) (K (.bool false))
    | v => K v)
  | false => K v
def zfJ : List Oper → Nat → Option Oper
  | [], _ => none
  | o :: _, 0 => some o
  | _ :: r, i + 1 => zfJ r i
def zto (all : List Oper) (E : Env) (j : Nat) : Option (Option Bool) :=
  match zfJ all j with
  | some o => (match o.dst with
    | some d => (match Env.find E d with
      | some (.bool b) => some (some b)
      | some (.tuple _) => some none
      | _ => none)
    | none => none)
  | none => none
def zry (all : List Oper) (i : Nat) (op : Op) : Bool := match op with | .move _ => zrt all i | _ => false
def zhm (S : Sig) (all : List Oper) (dr : Bool) (i : Nat) (o : Oper) (E : Env) (w : Wd) (K : Env → Wd → Prop) (KP : Env → List PanicEntry → Wd → Prop) : Prop :=
  match zd4 S.τ o.op with
  | true => zpb S E o.op w fun v => zsU (zry all i o.op) v fun v => K (zcW o.dst v E) w
  | false => (match dr with
    | false => zrQ S E o w (fun v w' => K (zcW o.dst v E) w') (KP E)
    | true => zrQ S E o w (fun v w' => Below w.heap.size w w' ∧ K (zcW o.dst v E) w') (KP E))
def zav (S : Sig) (all : List Oper) (dr : Bool) (i : Nat) (o : Oper) (E : Env) (w : Wd) (K : Env → Wd → Prop) (KP : Env → List PanicEntry → Wd → Prop) : Prop :=
  match zmK S.n o.dst with
  | false => False
  | true => (match o.guard with
    | none => zhm S all dr i o E w K KP
    | some (j, want) => (match zto all E j with
      | some (some b) => (match b, want with
        | true, true => zhm S all dr i o E w K KP
        | false, false => zhm S all dr i o E w K KP
        | true, false => K (zcW o.dst undef E) w
        | false, true => K (zcW o.dst undef E) w)
      | some none => K (zcW o.dst undef E) w
      | none => False))
def zeC (S : Sig) (all : List Oper) : Nat → List Oper → Env → Wd → (Env → Wd → Prop) → (Env → List PanicEntry → Wd → Prop) → Prop
  | _, [], E, w, K, _ => K E w
  | i, o :: r, E, w, K, KP => zav S all false i o E w (fun E' w' => zeC S all (i + 1) r E' w' K KP) KP
def znN (S : Sig) (all : List Oper) (X : List Nat) (QP : List PanicEntry → Wd → Prop) : List Nat → Env → Wd → (Env → Wd → Prop) → Prop
  | [], E, w, K => K E w
  | i :: r, E, w, K => (match zfJ all i with
    | some o => zav S all (!zhN i X) i o E w (fun E' w' => znN S all X QP r E' w' K) (fun _ ch w => QP ch w)
    | none => False)
def zgK (S : Sig) (all : List Oper) (X : List Nat) (QP : List PanicEntry → Wd → Prop) : OT → Env → Wd → (Env → Wd → Prop) → Prop
  | .nil, E, w, K => K E w
  | .op i t, E, w, K => (match zfJ all i with
    | some o => zav S all (!zhN i X) i o E w (fun E' w' => zgK S all X QP t E' w' K) (fun _ ch w => QP ch w)
    | none => False)
  | .alt x y, E, w, K => zgK S all X QP x E w K ∧ zgK S all X QP y E w K
def zcC (τ : TT) (X : List Nat) (ops : Array Oper) (k i : Nat) : Bool :=
  match ops[k]?, ops[i]? with
  | some ok, some oi => ok.apart ops oi && zd4 τ ok.op && jg ok.op && jg oi.op && (zd4 τ oi.op || !zhN i X || isN ok.op)
  | _, _ => false
def ziZ (τ : TT) (X : List Nat) (ops : Array Oper) : List Nat → Bool
  | [] => true
  | k :: r => r.all (fun i => zel ops ops.size k i || zcC τ X ops k i) && !r.contains k && ziZ τ X ops r
def zq8 (τ : TT) (X : List Nat) (ops : Array Oper) (L : List Nat) : Bool :=
  Nat.beq L.length ops.size && ziZ τ X ops L && L.all (fun i => Nat.blt i ops.size) && (List.range ops.size).all (fun i => L.contains i) &&
  (List.range ops.size).all (fun i => match ops[i]? with
    | some o => o.after.all fun e => !Region.binds .any e || [e.on, i].isSublist L
    | none => true) && ops.all (fun o => jg o.op)
theorem zbY {S : Sig} {X : List Nat} {ops : Array Oper} {k i : Nat} (hd : zcC S.τ X ops k i = true) : Indep S X ops k i := by
  refine ⟨fun ok oi hk ho => ?_⟩
  simp only [zcC, hk, ho, Qi, QI, KJ] at hd
  exact ⟨hd.1.1.1.1, hd.1.1.1.2, hd.1.1.2, hd.1.2, by rcases hd.2 with (h | h) | h; exact .inl h; exact .inr (.inl h); exact .inr (.inr h)⟩
theorem zfI {S : Sig} {X : List Nat} {ops : Array Oper} : ∀ {L : List Nat}, ziZ S.τ X ops L = true → L.Nodup ∧ ∀ k i, [k, i].Sublist L → (∃ f, zel ops f k i = true) ∨ Indep S X ops k i
  | [], _ => ⟨List.nodup_nil, fun _ _ h => by cases h⟩
  | x :: r, h => by
    simp only [ziZ, Qi, Qk, QI, KJ, JU, decide_eq_false_iff_not] at h
    obtain ⟨⟨h1, h2⟩, h3⟩ := h
    obtain ⟨hn, hp⟩ := zfI h3
    refine ⟨QX.2 ⟨h2, hn⟩, fun k i hs => ?_⟩
    cases hs with
    | cons _ hs => exact hp k i hs
    | cons_cons _ hs =>
      have hi : i ∈ r := List.singleton_sublist.1 hs
      rcases h1 i hi with hw | hd
      · exact .inl ⟨_, hw⟩
      · exact .inr (zbY hd)
theorem znM {S : Sig} {X : List Nat} {ops : Array Oper} {L : List Nat} (h : zq8 S.τ X ops L = true) : L.length = ops.size ∧ OrdOk S X ops L ∧ ∀ o, o ∈ ops → jg o.op = true := by
  simp only [zq8, Qi, Qk, Gk, Uq, JU, decide_eq_true_eq] at h
  obtain ⟨⟨⟨⟨⟨h0, h1⟩, h2⟩, h3⟩, h4⟩, h5⟩ := h
  obtain ⟨hn, hp⟩ := zfI h1
  refine ⟨JR h0, ⟨hn, fun i => ⟨h2 i, h3 i⟩, hp, fun i o e ho he hb => ?_⟩, fun o ho => ?_⟩
  · have hi : i < ops.size := (Jk.1 ho).1
    have := h4 i hi
    simp only [ho, Jc] at this
    have := this e he
    simp only [hb, Ux, Uw] at this
    exact List.isSublist_iff_sublist.1 this
  · simp only [Jc] at h5
    exact h5 o ho
theorem zc8 : ∀ (l : List Oper) (i : Nat), zfJ l i = l[i]?
  | [], i => by simp [zfJ]
  | _ :: _, 0 => rfl
  | _ :: r, i + 1 => by simp only [zfJ, Ju]; exact zc8 r i
section
variable {S : Sig} {n : Nat} {ops : Array Oper} {E : Env} {a : Act} {w : Wd}
theorem zdy (ha : Agrees S a E) {j : Nat} {r : Option Bool} (h : zto ops.toList E j = some r) : yielded ops a.tmps j = r := by
  unfold zto at h
  rw [zc8] at h
  split at h
  · rename_i o ho
    split at h
    · rename_i d hd
      have ho' : ops[j]? = some o := by simpa using ho
      split at h
      · rename_i b hf
        cases h
        have := ha.val d _ hf
        simp [yielded, ho', hd, this]
      · rename_i t hf
        cases h
        have := ha.val d _ hf
        simp [yielded, ho', hd, this]
      · cases h
    · cases h
  · cases h
theorem zh3 {g : Bool} {v : Value} {K : Value → Prop} (h : zsU g v K) : K v := by
  unfold zsU at h
  split at h
  · split at h
    · rename_i b
      cases b
      · exact h.2 rfl
      · exact h.1 rfl
    · exact h
  · exact h
theorem zh0 (hS : SigOk S) {i : Nat} {o : Oper} (ho : ops[i]? = some o) (hs : jg o.op = true) {K : Env → Wd → Prop} {KP : Env → List PanicEntry → Wd → Prop}
    {next : Act → Wd → Prop} {Q : Exit → Act → Wd → Prop} (h : zav S ops.toList false i o E w K KP) (ha : Agrees S a E)
    (hn : ∀ E' a' w', Agrees S a' E' → K E' w' → next a' w') (hp : ∀ ch w', KP E ch w' → Q (.panic ch) a w') :
    wpOpIn (FR S.r) n S.P ops Q i next a w := by
  unfold zav at h
  split at h
  · exact h.elim
  · rename_i hd
    have ex : zhm S ops.toList false i o E w K KP → o.wpIn (FR S.r) n S.P a w next Q := fun h => by
      unfold zhm at h
      split at h
      · obtain ⟨v, hk, hr⟩ := zfH hS h
        exact (qi (S := S) (n := n) (zaw hs) (hr a ha w (.inr (Gh _ _))) (hn _ _ _ (ha.put hd v) (zh3 hk))).wpIn (zaw hs)
      · exact (zeb hS h ha (fun v w' hk => hn _ _ _ (ha.put hd v) hk) hp).wpIn (zaw hs)
    have sk : K (zcW o.dst undef E) w → (∀ f, o.about S.P w a.eval = some f → (FR S.r).fn f) ∧ next (a.put o.dst undef) w := fun h => ⟨fun _ _ => trivial, hn _ _ _ (ha.put hd undef) h⟩
    unfold wpOpIn
    simp only [ho]
    split at h
    · rename_i hg
      have : Region.wanted o (yielded ops a.tmps) = true := by simp [Region.wanted, hg]
      rw [Gx this]; exact ex h
    · rename_i j want hg
      split at h
      · rename_i b hgv
        have hy := zdy ha hgv
        have hw : Region.wanted o (yielded ops a.tmps) = (b == want) := by simp [Region.wanted, hg, hy]
        rw [hw]
        cases b <;> cases want <;> simp only [] at h <;> first | exact ex h | exact sk h
      · rename_i hgv
        have hy := zdy ha hgv
        have hw : Region.wanted o (yielded ops a.tmps) = false := by simp [Region.wanted, hg, hy]
        rw [hw]
        exact sk h
      · exact h.elim
theorem zfF (hS : SigOk S) {X : List Nat} {i : Nat} {o : Oper} (ho : ops[i]? = some o) (_hs : jg o.op = true) {K : Env → Wd → Prop}
    {next : Act → Wd → Prop} {QP : List PanicEntry → Wd → Prop} (h : zav S ops.toList (!zhN i X) i o E w K (fun _ ch w => QP ch w)) (ha : Agrees S a E)
    (hn : ∀ E' a' w', Agrees S a' E' → K E' w' → next a' w') :
    jd S X n QP ops i next a w := by
  unfold zav at h
  split at h
  · exact h.elim
  · rename_i hd
    have ex : zhm S ops.toList (!zhN i X) i o E w K (fun _ ch w => QP ch w) → (if zd4 S.τ o.op = true then ∃ v, PV S.P o a w v ∧ next (a.put o.dst v) w
       else UponE S n o a w (fun a' w' => (zhN i X = false → Below w.heap.size w w') ∧ next a' w') (PQ QP)) := fun h => by
      unfold zhm at h
      split at h
      · rename_i hp
        rw [Gx hp]
        obtain ⟨v, hk, hr⟩ := zfH hS h
        exact ⟨v, fun w2 hb => hr a ha w2 hb, hn _ _ _ (ha.put hd v) (zh3 hk)⟩
      · rename_i hp
        rw [Gw (by simp [hp])]
        split at h
        · rename_i hm
          have hm' : zhN i X = true := by simpa using hm
          exact zeb hS h ha (fun v w' hk => ⟨fun hf => (by rw [hm'] at hf; cases hf), hn _ _ _ (ha.put hd v) hk⟩) (fun _ _ h => h)
        · exact zeb hS h ha (fun v w' hk => ⟨fun _ => hk.1, hn _ _ _ (ha.put hd v) hk.2⟩) (fun _ _ h => h)
    have sk : K (zcW o.dst undef E) w → next (a.put o.dst undef) w := fun h => hn _ _ _ (ha.put hd undef) h
    unfold jd
    simp only [ho]
    split at h
    · rename_i hg
      have : Region.wanted o (yielded ops a.tmps) = true := by simp [Region.wanted, hg]
      rw [Gx this]; exact ex h
    · rename_i j want hg
      split at h
      · rename_i b hgv
        have hy := zdy ha hgv
        have hw : Region.wanted o (yielded ops a.tmps) = (b == want) := by simp [Region.wanted, hg, hy]
        rw [hw]
        cases b <;> cases want <;> simp only [] at h <;> first | exact ex h | exact sk h
      · rename_i hgv
        have hy := zdy ha hgv
        have hw : Region.wanted o (yielded ops a.tmps) = false := by simp [Region.wanted, hg, hy]
        rw [hw]
        exact sk h
      · exact h.elim
end
section
variable {S : Sig} {n : Nat}
def zeP (S : Sig) (Q : Exit → Env → Wd → Prop) : Exit → Act → Wd → Prop := fun ex a w => ∃ E, Agrees S a E ∧ Q ex E w
theorem zgM (hS : SigOk S) {ops : Array Oper} (hsel : ∀ o ∈ ops, jg o.op = true) {Q : Exit → Env → Wd → Prop} :
    ∀ (r : List Oper) (i : Nat) (E : Env) (a : Act) (w : Wd), (∀ k o, r[k]? = some o → ops[i + k]? = some o) → Agrees S a E →
      zeC S ops.toList i r E w (fun E w => Q .normal E w) (fun E ch w => Q (.panic ch) E w) →
      wpOpsIn (FR S.r) n S.P ops (zeP S Q) (List.range' i r.length) a w
  | [], i, E, a, w, _, ha, h => by simp only [QR, List.range'_zero, wpOpsIn]; exact ⟨E, ha, h⟩
  | o :: r, i, E, a, w, hr, ha, h => by
    rw [Qt, List.range'_succ, wpOpsIn_cons]
    have ho : ops[i]? = some o := by simpa using hr 0 o rfl
    refine zh0 hS ho (hsel o (JI ho)) h ha (fun E' a' w' ha' hk => ?_) (fun ch w' hk => ⟨E, ha, hk⟩)
    exact zgM hS hsel r (i + 1) E' a' w' (fun k o' hk => by have := hr (k + 1) o' (by simpa using hk); rwa [UH, UP 1 k]) ha' hk
theorem zgL (hS : SigOk S) {X : List Nat} {QP : List PanicEntry → Wd → Prop} {ops : Array Oper} (hsel : ∀ o ∈ ops, jg o.op = true) {K : Env → Wd → Prop} :
    ∀ (L : List Nat) (E : Env) (a : Act) (w : Wd), Agrees S a E → znN S ops.toList X QP L E w K →
      zg1 S X n QP ops (fun a w => ∃ E, Agrees S a E ∧ K E w) L a w
  | [], E, _, _, ha, h => ⟨E, ha, h⟩
  | i :: r, E, a, w, ha, h => by
    simp only [znN, zc8] at h
    split at h
    · rename_i o ho
      have ho' : ops[i]? = some o := by simpa using ho
      exact zfF hS ho' (hsel o (JI ho')) h ha (fun E' a' w' ha' hk => zgL hS hsel r E' a' w' ha' hk)
    · exact h.elim
theorem zaS (hS : SigOk S) {X : List Nat} {QP : List PanicEntry → Wd → Prop} {ops : Array Oper} (hsel : ∀ o ∈ ops, jg o.op = true) {K : Env → Wd → Prop} :
    ∀ (T : OT) (E : Env) (a : Act) (w : Wd), Agrees S a E → zgK S ops.toList X QP T E w K →
      zcP S X n QP ops (fun a w => ∃ E, Agrees S a E ∧ K E w) T a w
  | .nil, E, _, _, ha, h => ⟨E, ha, h⟩
  | .op i t, E, a, w, ha, h => by
    simp only [zgK, zc8] at h
    split at h
    · rename_i o ho
      have ho' : ops[i]? = some o := by simpa using ho
      exact zfF hS ho' (hsel o (JI ho')) h ha (fun E' a' w' ha' hk => zaS hS hsel t E' a' w' ha' hk)
    · exact h.elim
  | .alt x y, E, a, w, ha, h => ⟨zaS hS hsel x E a w ha h.1, zaS hS hsel y E a w ha h.2⟩
def DrawE (S : Sig) (ops : Array Oper) (E : Env) (w : Wd) (K : Env → Wd → Prop) (QP : List PanicEntry → Wd → Prop) : Prop :=
  (∃ X L : List Nat, zq8 S.τ X ops L = true ∧ znN S ops.toList X QP L E w.drew K) ∨
  (∃ (X : List Nat) (T : OT), (zlZ (zcC S.τ X ops) ops ops.size (Array.replicate ops.size false) T && ops.all (fun o => jg o.op)) = true ∧ zgK S ops.toList X QP T E w.drew K) ∨
  (∃ (X : List Nat) (T : OT), (zkM (zcC S.τ X ops) ops ops.size (Array.replicate ops.size false) T && ops.all (fun o => jg o.op)) = true ∧ zgK S ops.toList X QP T E w.drew K)
theorem DrawE.ord {S : Sig} {ops : Array Oper} {E : Env} {w : Wd} {K : Env → Wd → Prop} {QP : List PanicEntry → Wd → Prop} (X L : List Nat) (h : zq8 S.τ X ops L = true) (k : znN S ops.toList X QP L E w.drew K) : DrawE S ops E w K QP :=
  .inl ⟨X, L, h, k⟩
def zqu (ops : List Oper) : Bool := ops.all fun o => jg o.op
def zqz (body : Env → Wd → (Exit → Env → Wd → Prop) → Prop) (E : Env) (w : Wd) (Q : Exit → Env → Wd → Prop) : Prop :=
  ∃ (σ : Type) (env : σ → Env) (inv : σ → Wd → Prop) (μ : σ → Nat) (s0 : σ), Cov E (env s0) ∧ inv s0 w ∧
    ∀ s w, inv s w → body (env s) w fun ex E' w' => match ex with
      | .normal => ∃ s', Cov E' (env s') ∧ inv s' w' ∧ μ s' < μ s
      | ex => Q ex E' w'
def zju (S : Sig) (f : Operand) (params : Array Tmp) (assign body : Code) (E : Env) (w : Wd) (Q : Exit → Env → Wd → Prop) : Prop :=
  ∀ a, Agrees S a E → (Code.rangeFunc f params assign body).wpIn (FR S.r) NN S.P (zeP S Q) a w
def wpE (S : Sig) : Code → Env → Wd → (Exit → Env → Wd → Prop) → Prop
  | .skip, E, w, Q => Q .normal E w
  | .region _ ops draw, E, w, Q => (match draw with
    | false => (match zqu ops.toList with
      | true => zeC S ops.toList 0 ops.toList E w (fun E w => Q .normal E w) (fun E ch w => Q (.panic ch) E w)
      | false => False)
    | true => DrawE S ops E w (fun E w => Q .normal E w) (fun ch w => Q (.panic ch) ⟨[], E.ds⟩ w))
  | .seq x y, E, w, Q => wpE S x E w fun ex E' w' => match ex with
    | .normal => wpE S y E' w' Q
    | ex => Q ex E' w'
  | .cond c x y, E, w, Q => (match opd E c with
    | some (.bool b) => Br b (wpE S x E w Q) (wpE S y E w Q)
    | _ => False)
  | .block id x, E, w, Q => wpE S x E w fun ex E' w' => match ex with
    | .exit id' => (match Nat.beq id' id with
      | true => Q .normal E' w'
      | false => Q (.exit id') E' w')
    | ex => Q ex E' w'
  | .loop x, E, w, Q => zqz (fun E w Q => wpE S x E w Q) E w Q
  | .rangeFunc f ps ags x, E, w, Q => zju S f ps ags x E w Q
  | .exit id, E, w, Q => Q (.exit id) E w
  | .scope _, _, _, _ => False
  | .label _, E, w, Q => Q .normal E w
  | .goto l, E, w, Q => Q (.goto l) E w
  | .ret, E, w, Q => Q .ret E w
  | .refuse _, _, _, _ => False
theorem qE (hS : SigOk S) : ∀ (c : Code) (E : Env) (a : Act) (w : Wd) (Q : Exit → Env → Wd → Prop), Agrees S a E → wpE S c E w Q → c.wpIn (FR S.r) NN S.P (zeP S Q) a w
  | .skip, E, a, w, Q, ha, h => wpIn_skip ⟨E, ha, h⟩
  | .region id ops draw, E, a, w, Q, ha, h => by
    cases draw with
    | false =>
      simp only [wpE] at h
      split at h
      · rename_i hs
        refine wpIn_region ?_
        rw [List.range_eq_range']
        have hs' : ∀ o ∈ ops, jg o.op = true := fun o ho => by
          simp only [zqu, Qk] at hs
          exact hs o (Array.mem_toList_iff.2 ho)
        have := zgM (n := NN) hS hs' ops.toList 0 E a w (fun k o hk => by simpa using hk) ha h
        simpa using this
      · exact h.elim
    | true =>
      simp only [wpE] at h
      refine wpIn_region_any hS.mixed ?_
      have hI : ∀ (b : Act) (dst : Option Tmp) (v : Value), (b.tmps.size = S.n ∧ b.defers = E.ds) → ((b.put dst v).tmps.size = S.n ∧ (b.put dst v).defers = E.ds) := fun b dst v hb => by
        cases dst with
        | none => exact hb
        | some d => exact ⟨by simp [Act.put, hb.1], hb.2⟩
      have hQ : ∀ ch (b : Act) w, (b.tmps.size = S.n ∧ b.defers = E.ds) → Q (.panic ch) ⟨[], E.ds⟩ w → zeP S Q (.panic ch) b w := fun ch b w hb hq => ⟨⟨[], E.ds⟩, ⟨hb.1, hb.2, fun t v hv => by simp [Env.find, VEnv.find] at hv⟩, hq⟩
      have hia : a.tmps.size = S.n ∧ a.defers = E.ds := ⟨ha.size, ha.defers⟩
      rcases h with ⟨X, L, hL, h⟩ | ⟨X, T, hT, h⟩ | ⟨X, T, hT, h⟩
      · obtain ⟨hlen, hO, hs⟩ := znM hL
        have h1 := zgL (n := NN) hS hs L E a w.drew ha h
        refine zfT (Q := zeP S Q) hI hQ hs hO ops.size L (Array.replicate ops.size false) a w.drew hlen (List.Sublist.refl _) (by simp) (fun i => ?_) (fun j o hj => ?_) hia h1
        · rw [hO.mem i]
          refine ⟨fun hi => ⟨hi, by simp [hi]⟩, fun hi => hi.1⟩
        · exfalso
          by_cases hjs : j < ops.size <;> simp [hjs] at hj
      · simp only [Qi, Jc] at hT
        exact zfS (Q := zeP S Q) hI hQ hT.2 (fun k i h => zbY h) ops.size _ T a w.drew hT.1 hia (zaS (n := NN) hS hT.2 T E a w.drew ha h)
      · simp only [Qi, Jc] at hT
        exact zcM (Q := zeP S Q) hI hQ hT.2 (fun k i h => zbY h) ops.size _ T a w.drew hT.1 hia (zaS (n := NN) hS hT.2 T E a w.drew ha h)
  | .seq x y, E, a, w, Q, ha, h => by
    refine wpIn_seq ?_
    refine Gn (qE hS x E a w _ ha h) ?_
    rintro ex a' w' ⟨E', ha', hq⟩
    cases ex with
    | normal => exact qE hS y E' a' w' Q ha' hq
    | _ => exact ⟨E', ha', hq⟩
  | .cond c x y, E, a, w, Q, ha, h => by
    simp only [wpE] at h
    split at h
    · rename_i b hb
      refine wpIn_cond_split (ha.eval hb) (fun e => qE hS x E a w Q ha (h.1 e)) (fun e => qE hS y E a w Q ha (h.2 e))
    · exact h.elim
  | .block id x, E, a, w, Q, ha, h => by
    refine wpIn_block ?_
    refine Gn (qE hS x E a w _ ha h) ?_
    rintro ex a' w' ⟨E', ha', hq⟩
    cases ex with
    | exit id' =>
      simp only [Exit.inBlock]
      dsimp only at hq
      split at hq
      · rename_i hb; rw [Gx (JR hb)]; exact ⟨E', ha', hq⟩
      · rename_i hb; rw [Gw (Nat.ne_of_beq_eq_false hb)]; exact ⟨E', ha', hq⟩
    | _ => exact ⟨E', ha', hq⟩
  | .loop x, E, a, w, Q, ha, h => by
    obtain ⟨σ, env, inv, μ, s0, hc, hi, hb⟩ := h
    have key : ∀ m s a w, μ s = m → Agrees S a (env s) → inv s w → (Code.loop x).wpIn (FR S.r) NN S.P (zeP S Q) a w := by
      intro m s a w hm ha hi
      refine wpIn_loop (fun a w => ∃ s, Agrees S a (env s) ∧ inv s w) (fun a w => leastOf (fun k => ∃ s, Agrees S a (env s) ∧ inv s w ∧ μ s = k)) ⟨s, ha, hi⟩ ?_
      intro a w ⟨s1, ha1, hi1⟩
      obtain ⟨⟨s2, ha2, hi2, hm2⟩, _⟩ := leastOf_spec (p := fun k => ∃ s, Agrees S a (env s) ∧ inv s w ∧ μ s = k) ⟨_, s1, ha1, hi1, rfl⟩
      refine Gn (qE hS x (env s2) a w _ ha2 (hb s2 w hi2)) ?_
      rintro ex a' w' ⟨E', ha', hq⟩
      cases ex with
      | normal =>
        obtain ⟨s', hc', hi', hlt⟩ := hq
        refine ⟨⟨s', ha'.cov hc', hi'⟩, ?_⟩
        have := (leastOf_spec (p := fun k => ∃ s, Agrees S a' (env s) ∧ inv s w' ∧ μ s = k) ⟨_, s', ha'.cov hc', hi', rfl⟩).2
        rw [← hm2]
        exact KE (this _ ⟨s', ha'.cov hc', hi', rfl⟩) hlt
      | _ => exact ⟨E', ha', hq⟩
    exact key _ s0 a w rfl (ha.cov hc) hi
  | .rangeFunc f ps ags x, E, a, w, Q, ha, h => h a ha
  | .exit id, E, a, w, Q, ha, h => wpIn_exit ⟨E, ha, h⟩
  | .scope _, _, _, _, _, _, h => h.elim
  | .label _, E, a, w, Q, ha, h => wpIn_label ⟨E, ha, h⟩
  | .goto l, E, a, w, Q, ha, h => wpIn_goto ⟨E, ha, h⟩
  | .ret, E, a, w, Q, ha, h => wpIn_ret ⟨E, ha, h⟩
  | .refuse _, _, _, _, _, _, h => h.elim
def ziU (E : Env) (w : Wd) : (τ : TT) → List ResultVar → (List Value → Prop) → Prop
  | _, [], K => K []
  | τ, .tmp t :: r, K => zR E (.tmp t) fun v => ziU E w τ r fun vs => K (v :: vs)
  | τ, .cell t T :: r, K => zR E (.tmp t) fun va => (match va with
    | .pointer (some p) => (match TT.get τ T with
      | some { agg := true, size := sz, .. } => ∃ us : List Value, us.length = sz ∧ zo w p us ∧ ziU E w τ r fun vs => K (.agg us.toArray :: vs)
      | some { agg := false, .. } => ∃ u, w.cell? p = some u ∧ ziU E w τ r fun vs => K (u :: vs)
      | none => False)
    | _ => False)
def jI : List Value → Value
  | [v] => v
  | l => .tuple l.toArray
theorem zev {S : Sig} (hS : SigOk S) {E : Env} {a : Act} {w : Wd} (ha : Agrees S a E) : ∀ (l : List ResultVar) (K : List Value → Prop), ziU E w S.τ l K →
    ∃ vs, K vs ∧ (l.mapM fun | .tmp t => pure (a.tmps.getD t undef) | .cell q t => do loadVar t (← asAddr (a.tmps.getD q undef)) : Sem (List Value)).run S.P w = .ok vs w
  | [], K, h => ⟨[], h, rfl⟩
  | .tmp t :: r, K, h => by
    obtain ⟨v, hv, h⟩ := zp h
    obtain ⟨vs, hk, hr⟩ := zev hS ha r _ h
    have : a.tmps.getD t undef = v := ha.eval hv
    refine ⟨_, hk, ?_⟩
    simp only [Up, UY, UZ, Qa, this]
    rw [hr]
    rfl
  | .cell q T :: r, K, h => by
    simp only [ziU] at h
    replace h := zp h
    obtain ⟨va, hv, h⟩ := h
    have e0 : a.tmps.getD q undef = va := ha.eval hv
    split at h
    · rename_i p
      split at h
      · rename_i sz _ _ ht
        obtain ⟨us, hl, hc, h⟩ := h
        obtain ⟨vs, hk, hr⟩ := zev hS ha r _ h
        refine ⟨_, hk, ?_⟩
        have e : asAddr (a.tmps.getD q undef) = pure p := by rw [e0]; rfl
        simp only [Up, UY, UZ, Qa, e, zfM (hS.ty _ _ ht) rfl hl hc]
        rw [hr]
        rfl
      · rename_i _ _ _ _ ht
        obtain ⟨u, hc, h⟩ := h
        obtain ⟨vs, hk, hr⟩ := zev hS ha r _ h
        refine ⟨_, hk, ?_⟩
        have e : asAddr (a.tmps.getD q undef) = pure p := by rw [e0]; rfl
        simp only [Up, UY, UZ, Qa, e, zfL (hS.ty _ _ ht) rfl hc]
        rw [hr]
        rfl
      · exact h.elim
    · exact h.elim
theorem zjV {S : Sig} (hS : SigOk S) {E : Env} {a : Act} {w : Wd} (ha : Agrees S a E) {fn : Func} {K : Value → Prop} (h : ziU E w S.τ fn.results.toList fun vs => K (jI vs)) :
    ∃ v, K v ∧ (results fn a.tmps).run S.P w = .ok v w := by
  obtain ⟨vs, hk, hr⟩ := zev hS ha _ _ h
  refine ⟨_, hk, ?_⟩
  unfold results
  rw [UY, Array.mapM_eq_mapM_toList, Sem.run_map]
  refine Eq.trans (Gq (fun x => Result.andThen (Result.andThen x _) _) hr) ?_
  simp only [Qa, UZ]
  congr 1
  match vs with
  | [] => simp [jI]
  | [v] => simp [jI]
  | v :: u :: r => simp [jI]
def zje : List Deferred → Wd → (Wd → Prop) → Prop
  | [], w, K => K w
  | d :: r, w, K => ∃ b, d.target = .collected b ∧ w.heap[b]? = some (.deferred (some [])) ∧ zje r (w.putObj b (.deferred none)) K
def zj5 (S : Sig) (fn : Func) (R : Ending → Wd → Prop) : Exit → Env → Wd → Prop
  | .normal, E, w => zje E.ds w fun w' => ziU E w' S.τ fn.results.toList fun vs => R (.returned (jI vs)) w'
  | .ret, E, w => zje E.ds w fun w' => ziU E w' S.τ fn.results.toList fun vs => R (.returned (jI vs)) w'
  | .panic ch, E, w => E.ds = [] ∧ R (.panicked ch) w
  | _, _, _ => False
theorem jD {S : Sig} (hS : SigOk S) {fn : Func} {R : Ending → Wd → Prop} {a : Act} {E : Env} (ha : Agrees S a E) : ∀ (ds : List Deferred) (w : Wd),
    (zje ds w fun w' => ziU E w' S.τ fn.results.toList fun vs => R (.returned (jI vs)) w') → LeavesInM (FR none) NN S.P fn a.tmps R ds .returning w
  | [], w, h => by
    obtain ⟨v, hk, hr⟩ := zjV hS ha (K := fun v => R (.returned v) w) h
    exact ⟨v, hr, hk⟩
  | d :: r, w, ⟨b, hd, hb, h⟩ => ⟨by simp, .inl ⟨b, _, hd, run_takeDeferred hb, jD hS ha r _ h⟩⟩
def zcU : Nat → List Value → VEnv
  | _, [] => []
  | i, v :: r => (i, v) :: zcU (i + 1) r
theorem zcL : ∀ (l : List Value) (i t : Nat) (v : Value), VEnv.find (zcU i l) t = some v → i ≤ t ∧ l[t - i]? = some v
  | [], _, _, _, h => by simp [zcU, VEnv.find] at h
  | u :: r, i, t, v, h => by
    simp only [zcU, VEnv.find] at h
    cases hb : Nat.beq i t with
    | true =>
      rw [hb] at h
      have e : i = t := JR hb
      subst e
      simp only [KZ] at h
      subst h
      simp
    | false =>
      rw [hb] at h
      obtain ⟨h1, h2⟩ := zcL r (i + 1) t v h
      refine ⟨by omega, ?_⟩
      have : t - i = (t - (i + 1)) + 1 := by omega
      rw [this]
      simpa using h2
theorem qM {S : Sig} (hS : SigOk S) {f : FuncId} {fn : Func} {c : Code} {args : List Value} {w : Wd} {R : Ending → Wd → Prop}
    (hf : S.P.funcs[f]? = some fn) (hb : fn.body = some c) (hn : fn.ntmps = S.n) (hle : args.length ≤ S.n) (hr : S.r = none)
    (h : wpE S c ⟨zcU 0 args, []⟩ w (zj5 S fn R)) : Calls S.P f args.toArray w R := by
  rw [← callsIn_wide (n := NN)]
  have hF : FR none = Fence.wide := rfl
  rw [← hF]
  refine Ko hf hb trivial ?_
  have ha : Agrees S { tmps := args.toArray ++ Array.replicate (fn.ntmps - args.toArray.size) undef, defers := [] } ⟨zcU 0 args, []⟩ := by
    refine ⟨?_, rfl, fun t v hv => ?_⟩
    · simp [hn]; omega
    · obtain ⟨_, h2⟩ := zcL _ _ _ _ hv
      simp only [UW] at h2
      have hlt : t < args.length := (Jq.1 h2).1
      simp only [JH, KX, hlt, Gu]
      simpa using h2
  have h1 := qE hS c _ _ w _ ha h
  rw [hr] at h1
  refine Gn h1 ?_
  rintro ex a' w' ⟨E', ha', hq⟩
  cases ex with
  | normal => have := jD hS ha' _ _ hq; rw [← ha'.defers] at this; exact this
  | ret => have := jD hS ha' _ _ hq; rw [← ha'.defers] at this; exact this
  | panic ch =>
    obtain ⟨hd, hR⟩ := hq
    show LeavesInM _ _ _ _ _ _ a'.defers _ _
    rw [ha'.defers, hd]
    exact hR
  | exit _ => exact hq.elim
  | goto _ => exact hq.elim
  | outgrown => exact hq.elim
end
theorem rb {a b:Bool} (h:a=b):Ending.returned (.bool a)=Ending.returned (.bool b):=by rw [h]
theorem ri {k:IntKind} {a b:Int} (h:a=b):Ending.returned (.int k a)=Ending.returned (.int k b):=by rw [h]
theorem zi {a:Int} (h : -9223372036854775808<=a/\a<=9223372036854775807):IntKind.i64.wrap a=a:=by
 unfold IntKind.wrap;simp only [IntKind.bits,IntKind.signed,Uz,show ((2:Int)^64)=18446744073709551616 from rfl,show ((2:Int)^(64-1))=9223372036854775808 from rfl]
 split
 ·rename_i h2;have:=dT h2;omega
 ·rename_i h2;have h3:a%18446744073709551616<9223372036854775808:=by simpa using h2
  omega
theorem nxI {k:Nat} {K:Int->Prop} (h:(k:Int)+1<=9223372036854775807) (x:K ((k+1:Nat):Int)):∃ m,IntKind.i64.wrap ((k:Int)+1)=m/\K m:=⟨_,(zi (by omega)).trans (by omega),x⟩
theorem zf1 {a:Int} (h:0<=a/\a<=255):IntKind.u8.wrap a=a:=by
 unfold IntKind.wrap;simp only [IntKind.bits,IntKind.signed,Ul,Kt,Gr];omega
theorem zuc (x:UInt8):(x.toNat:Int)<=255:=by have:=x.toNat_lt;omega
theorem qA (x:UInt8):IntKind.i64.wrap (x.toNat:Int)=(x.toNat:Int):=zi (by have:=zuc x;omega)
theorem qV {x y:UInt8}:((x.toNat:Int)=(y.toNat:Int))↔x=y :=
 ⟨fun h=>Uh.1 (by omega),fun h=>by rw [h]⟩
def u8 (x:UInt8):Value := .int .u8 x.toNat
theorem zef {w:Wd} {b o:Nat} {v:Value} {vs:List Value} (h:zo w ⟨b,o,none⟩ (v::vs)):w.cell? ⟨b,o,none⟩=some v:=by
 have:=h 0 v rfl
 rwa [zbf] at this
theorem zc {w:Wd} {b o:Nat} {vs:List Value} (h:zo w ⟨b,o,none⟩ vs) {i:Nat} {v:Value} (hv:vs[i]?=some v):w.cell? ⟨b,o+i,none⟩=some v:=by
 have:=h i v hv
 rwa [zbf] at this
theorem qt {w:Wd} {b o:Nat} {vs:List Value} (h:∀ i v,vs[i]?=some v->w.cell? ⟨b,o+i,none⟩=some v):zo w ⟨b,o,none⟩ vs :=
 fun i v hv=>by rw [zbf];exact h i v hv
theorem zM {w:Wd} {b o n m:Nat} {vs:List Value} (h:zo w ⟨b,o,none⟩ vs):zo w ⟨b,o+n,none⟩ ((vs.drop n).take m):=by
 refine qt fun i v hv=>?_;rw [Kx] at hv
 split at hv
 ·rw [Kw] at hv;have:=zc h hv
  rwa [<- UH] at this
 ·cases hv
theorem za {w:Wd} {g:Nat} {cs:Array Value} {t:TypeId} {fr:Nat×Nat} (h:w.heap[g]?=some (.cells cs t fr)):zo w ⟨g,0,none⟩ cs.toList:=by
 refine qt fun i v hv=>?_;rw [cell_of_row w g (0+i) cs t fr h,UX];simpa using hv
theorem qz {w:Wd} {g o n:Nat} {cs:Array Value} {t:TypeId} {fr:Nat×Nat} (h:w.heap[g]?=some (.cells cs t fr)):zo w ⟨g,o,none⟩ ((cs.toList.drop o).take n):=by
 have:=zM (n:=o) (m:=n) (za h)
 rwa [UX] at this
theorem ziC {w:Wd} {cs:Array Value} {t:TypeId}:zo (w.alloc (.cells cs t)) ⟨w.heap.size,0,none⟩ cs.toList :=
 za (heap_alloc_new w _)
theorem zb {w w2:Wd} (hb:Bw w w2) {g:Nat} {o:Obj} (h:w.heap[g]?=some o):w2.heap[g]?=some o :=
 (hb.block g (Jk.1 h).1).trans h
structure Enc (α:Type) where
 enc:α->List Value
 sz:Nat
 len:∀ a,(enc a).length=sz
 pos:0<sz
 one:∀ a,∀ u∈enc a,u.oneCell'=true
def SlR {α:Type} (E:Enc α) (w:Wd) (p:OA) (l:List α):Prop :=
 l=[]\/∃ b o,p=some ⟨b,o,none⟩/\b<w.heap.size/\∀ i (h:i<l.length),zo w ⟨b,o+i*E.sz,none⟩ (E.enc l[i])
section
variable {α:Type} {E:Enc α} {w w2:Wd} {p:OA} {l:List α}
theorem SlR.nil {E:Enc α} {w:Wd} {p:OA}:SlR E w p [] := .inl rfl
theorem SlR.at (h:SlR E w p l) {i:Nat} (hi:i<l.length):∃ b o,p=some ⟨b,o,none⟩/\b<w.heap.size/\∀ i (h:i<l.length),zo w ⟨b,o+i*E.sz,none⟩ (E.enc l[i]):=by
 rcases h with rfl | h
 ·simp at hi
 ·exact h
theorem SlR.below (h:SlR E w p l) (hb:Bw w w2):SlR E w2 p l:=by
 rcases h with rfl | ⟨b,o,hp,hlt,hc⟩
 ·exact .inl rfl
 ·exact .inr ⟨b,o,hp,nL hlt hb.size,fun i hi=>zw hb (hc i hi)⟩
theorem zeW (l:List α) (i:Nat) (hi:i<l.length):(((l.flatMap E.enc).drop (i*E.sz)).take E.sz)=E.enc l[i]:=by
 induction l generalizing i with
 | nil=>simp at hi
 | cons a r ih =>
  rw [KS]
  cases i with
  | zero=>simp [<- E.len a]
  | succ i =>
   have e:(i+1)*E.sz=(E.enc a).length+i*E.sz:=by rw [E.len,Gb];omega
   rw [e,<- Um,Un];simpa using ih i (by simpa using hi)
theorem qC (l:List α):(l.flatMap E.enc).length=l.length*E.sz:=by
 induction l with
 | nil=>simp
 | cons a r ih=>rw [KS,lap,ih,E.len,Qt,Gb];omega
theorem zhi (l:List α):∀ u∈l.flatMap E.enc,u.oneCell'=true:=fun u hu=>by
 obtain⟨a,_,h⟩:=List.mem_flatMap.1 hu;exact E.one a u h
theorem SlR.of_cells {b o:Nat} (hb:b<w.heap.size) (h:zo w ⟨b,o,none⟩ (l.flatMap E.enc)):SlR E w (some ⟨b,o,none⟩) l :=
 .inr ⟨b,o,rfl,hb,fun i hi=>by rw [<- zeW l i hi];exact zM h⟩
theorem SlR.cells {b o:Nat} (h:SlR E w (some ⟨b,o,none⟩) l):zo w ⟨b,o,none⟩ (l.flatMap E.enc):=by
 rcases h with rfl | ⟨b',o',hp,hlt,hc⟩
 ·intro i v hv;simp at hv
 ·cases hp
  refine qt fun j v hv=>?_;have hj:j<l.length*E.sz:=by rw [<- qC (E:=E) l];exact (Jq.1 hv).1
  have hs:=E.pos;have hd:j/E.sz<l.length:=Nat.div_lt_of_lt_mul (by rw [UU];exact hj);have h2:(E.enc l[j/E.sz])[j%E.sz]?=some v:=by
   rw [<- zeW l _ hd,Kx,Gx (Gl _ hs),Kw,UU,Ub];exact hv
  have h3:=zc (hc _ hd) h2
  rwa [UH,UU,Ub] at h3
def OwnS (E:Enc α) (T:TypeId) (B:Nat) (w:Wd) (p:OA) (cap:Nat) (l:List α):Prop :=
 w.ownsRow B T E.sz (.slice p l.length cap) l.length (l.flatMap E.enc)
theorem OwnS.nil {E:Enc α} {T B:Nat} {w:Wd}:OwnS E T B w none 0 []:=by
 unfold OwnS;exact World.ownsRow_nil _ _ _ _
theorem OwnS.inv {T B cap:Nat} (h:OwnS E T B w p cap l):(p=none/\cap=0/\l=[]) \/
  ∃ g cur,p=some ⟨g,0,none⟩/\B<=g/\w.heap[g]?=some (.cells cur T (0,0))/\l.length<=cap/\cap<=maxLen/\cur.size=cap*E.sz/\cur.toList.take (l.length*E.sz)=l.flatMap E.enc:=by
 obtain⟨h1,h2⟩:=h;rcases h2 with ⟨h2,h3⟩ | ⟨g,cap',cur,h2,hb,hg,hn,hm,hs,ht⟩
 ·simp only [Qb] at h2;exact .inl ⟨h2.1,h2.2.2,Jf h3⟩
 ·simp only [Qb,Gt] at h2;obtain⟨rfl,rfl⟩:=h2;exact .inr ⟨g,cur,rfl,hb,hg,hn,hm,hs,ht⟩
theorem OwnS.row {T B cap:Nat} (h:OwnS E T B w p cap l):SlR E w p l:=by
 rcases h.inv with ⟨_,_,rfl⟩ | ⟨g,cur,rfl,_,hg,_,_,_,ht⟩
 ·exact .inl rfl
 ·refine SlR.of_cells (Jk.1 hg).1 ?_;rw [<- ht];exact qz (o:=0) hg
theorem OwnS.kept {T B cap:Nat} (h:OwnS E T B w p cap l) {w':Wd} {row:Option Nat} (hg:w.grownBy w' row) (hne:∀ g,p=some ⟨g,0,none⟩->row≠some g):OwnS E T B w' p cap l:=by
 refine World.ownsRow.kept h hg ?_;rcases h.inv with ⟨rfl,_⟩ | ⟨g,_,rfl,_⟩
 ·exact .inl rfl
 ·exact .inr (fun e=>hne g rfl e.symm)
theorem OwnS.below {T B cap:Nat} (h:OwnS E T B w p cap l) (hb:Bw w w2):OwnS E T B w2 p cap l :=
 h.kept (row:=none) ⟨hb.os,hb.tape,hb.output,hb.size,fun k hk _=>hb.block k hk⟩ (fun _ _ h=>by cases h)
theorem OwnS.alloc {T B cap:Nat} (h:OwnS E T B w p cap l) (o:Obj):OwnS E T B (w.alloc o) p cap l :=
 h.below ((Gh _ w).alloc (Gc _) o)
theorem OwnS.drew {T B cap:Nat} (h:OwnS E T B w p cap l):OwnS E T B w.drew p cap l:=h.below (Gh _ w).drew
theorem ji {P:Program} {t T ty B cap m c:Nat} {a:Addr} {news:List α} {iT:TI} {z:List Value} (hu:P.underlying t=some (.slice T)) (hT:TIok P T iT) (hz:iT.zero=some z)
  (hs:iT.size=E.sz) (hzl:z.length=E.sz) (ho:OwnS E T B w p cap l) (hm:news.length=m) (hn:zo w a (news.flatMap E.enc)) (hB:B<=w.heap.size)
  (h1:l.length+m<=9223372036854775807) (h2:(l.length+m)*iT.bytes<=140737488355328) {K:Value->Wd->Prop}
  (k:∀ p' cap' w',OwnS E T B w' p' cap' (l++news)->w.grownBy w' (Value.slice p l.length cap).ownBlock->Below B w w' ->
   (∀ a,p'=some a->p=some a\/a.block=w.heap.size)->K (.slice p' (l++news).length cap') w') :
  SatR ((Builtin.append_ #[t,t] ty #[.slice p l.length cap,.slice (some a) m c]).run P w) K:=by
 obtain⟨⟨inf,hi,hsz,hby,hzz⟩,_⟩:=hT;obtain⟨zv,hzv,hzc⟩:=hzz z hz;have hown:=run_append_own_at (P:=P) w B t ty T inf zv E.sz iT.bytes hu hi hzv (hsz.trans hs) hby (by rw [<- hzl,<- hzc];simp) E.pos (.slice p l.length cap) l.length (l.flatMap E.enc) ho a m c (news.flatMap E.enc)
  (by rw [qC,hm]) hn (zhi news) (by unfold maxLen;omega) h2 hB
 obtain⟨v',w',hr,ho',hg,_,hat⟩:=hown;refine SatR.mk hr ?_;have hl:l.length+m=(l++news).length:=by simp [hm]
 have hf:l.flatMap E.enc++news.flatMap E.enc=(l++news).flatMap E.enc:=by rw [Kf]
 rw [hl,hf] at ho';have hb:Below B w w':=(Gh B w).grown hg hB (fun k e=>(QF ho k e).1);rcases ho'.2 with ⟨rfl,h0⟩ | ⟨g,cap',cur,rfl,qB⟩
 ·have:K (.slice none (l++news).length 0) w':=k none 0 w' (by unfold OwnS;rw [h0] at ho' ⊢;exact ho') hg hb (fun _ h=>by cases h);rw [h0] at this;exact this
 ·refine k _ _ w' ho' hg hb fun a ha=>?_
  cases ha
  rcases hat with h1 | h1
  ·rcases ho.inv with ⟨rfl,_⟩ | ⟨g',_,rfl,_⟩
   ·simp [Value.ownBlock] at h1
   ·simp [Value.ownBlock] at h1;exact .inl (by rw [h1])
  ·simp [Value.ownBlock] at h1;exact .inr h1
theorem OwnS.same {T B cap:Nat} (h:OwnS E T B w p cap l) {w':Wd} (hs:∀ a,p=some a->w'.heap[a.block]?=w.heap[a.block]?):OwnS E T B w' p cap l:=by
 obtain⟨h1,h2⟩:=h;refine⟨h1,?_⟩;rcases h2 with h2 | ⟨g,cap',cur,h2,hb,hg,qB⟩
 ·exact .inl h2
 ·refine .inr ⟨g,cap',cur,h2,hb,?_,qB⟩;simp only [Qb] at h2;rw [<- hg];exact hs _ h2.1
end
theorem zA (w:Wd) (o:Obj):(w.alloc o).heap[w.heap.size]?=some o:=by
 show (w.heap.push o)[w.heap.size]?=some o;simp
theorem qy {w:Wd} {i:Nat} {x:Obj} (o:Obj) (h:w.heap[i]?=some x):(w.alloc o).heap[i]?=some x:=by
 have hi:i<w.heap.size:=(Jk.1 h).1;show (w.heap.push o)[i]?=some x;rw [Array.getElem?_push,Gw (Nat.ne_of_lt hi)];exact h
theorem zb7 {w:Wd} {i g:Nat} {x:Obj} (cs:Array Value) (hne:i≠g) (h:w.heap[i]?=some x):(w.setRow g cs).heap[i]?=some x:=by
 rw [setRow_other w g i cs hne];exact h
theorem hdr {w:Wd} {i:Nat} {x:Obj} (h:w.heap[i]?=some x):w.drew.heap[i]?=some x:=h
theorem hlt {w:Wd} {i:Nat} {x:Obj} (h:w.heap[i]?=some x):i<w.heap.size:=(Jk.1 h).1
theorem zy {P:Program} {w:Wd} {T g:Nat} {iT:TI} (hT:TIok P T iT) {cs:Array Value} {t:TypeId} (hg:w.heap[g]?=some (.cells cs t (0,0))) {v:Value} (hv:v.cells.size=iT.size)
  (hc:cs.size=iT.size) (h0:v.cells.toList.all Value.oneCell'=true) {K:Wd->Prop} (k:K (w.setRow g v.cells)):SatR ((storeVar T ⟨g,0,none⟩ v).run P w) fun _ w'=>K w':=by
 obtain⟨⟨inf,hi,hs,_,_⟩,_⟩:=hT;have h1:∀ u∈v.cells.toList,u.oneCell'=true:=Qk.1 h0;have hst:=Qe P g 0 t v.cells.toList 0 cs w hg (by simp;omega) h1;refine SatR.mk (v:=()) (w':=w.setRow g v.cells) ?_ k;have hsz:(sizeOf T).run P w = .ok iT.size w:=by simp [sizeOf,typeInfo,hi,hs]
 simp only [storeVar,UY,hsz,Qa,hv,ne_eq,Qc,Gr];rw [hst];congr 2;apply Qf.1;simp [hc,hv]
theorem zq {w:Wd} {g:Nat} {cs cs':Array Value} {t:TypeId} {fr:Nat×Nat} (hg:w.heap[g]?=some (.cells cs t fr)):(w.setRow g cs').heap[g]?=some (.cells cs' t fr):=setRow_heap w g cs cs' t fr hg
theorem zt {w:Wd} {g k:Nat} {cs:Array Value} (h:k≠g):(w.setRow g cs).heap[k]?=w.heap[k]?:=setRow_other w g k cs h
theorem zl {B:Nat} {a w:Wd} (h:Below B a w) {g:Nat} (hg:B<=g) (cs:Array Value):Below B a (w.setRow g cs) :=
 h.trans ⟨rfl,rfl,rfl,by simp,fun k hk=>zt (by omega)⟩
theorem qq (w:Wd) (g:Nat) (cs:Array Value):w.grownBy (w.setRow g cs) (some g) :=
 ⟨rfl,rfl,rfl,by simp,fun k _ hne=>zt (fun e=>hne (by rw [e]))⟩
end Go.Vc
namespace Go.Sei
def zfP (c:UInt8):Bool:=(decide ((97:Int)<=c.toNat)&&decide ((c.toNat:Int)<=122))||(decide ((65:Int)<=c.toNat)&&decide ((c.toNat:Int)<=90))
def zg9 (c:UInt8):Bool:=decide ((48:Int)<=c.toNat)&&decide ((c.toNat:Int)<=57)
def eqB (c:UInt8) (k:Int):Bool:=decide ((c.toNat:Int)=k)
def zmQ (c:UInt8):Bool:=eqB c 61||(eqB c 43||(eqB c 45||(eqB c 94||(eqB c 38||(eqB c 124||(eqB c 33||(eqB c 40||(eqB c 41||(eqB c 58||eqB c 60)))))))))
def z7 (c:UInt8):Nat :=
 bif zfP c then 3 else bif zg9 c then 4 else bif eqB c 32||eqB c 9 then 1 else bif eqB c 10 then 2 else bif eqB c 95 then 5 else bif eqB c 35 then 7 else bif zmQ c then 6 else 0
def qp (c:UInt8):Bool:=decide (z7 c=3)||(decide (z7 c=4)||decide (z7 c=5))
def jw (p:UInt8->Bool):List UInt8->Nat
 | []=>0
 | c::r=>if p c then jw p r+1 else 0
theorem zjQ (p:UInt8->Bool):∀ l,jw p l<=l.length
 | []=>Gc _
 | c::r=>by
  unfold jw
  split
  ·exact Nat.succ_le_succ (zjQ p r)
  ·exact Ge _
def zjp (c:UInt8):Bool:=decide (z7 c=1)
def zdL (c:UInt8):Bool := !decide (z7 c=2)
def zbk (c:UInt8):Bool:=decide (z7 c=4)
def zb1 (s:List UInt8) (a:Nat):Nat:=a+jw zjp (s.drop a)
def zF (s:List UInt8) (a:Nat):Nat :=
 match s[zb1 s a]? with
 | some c=>if z7 c=7 then zb1 s a+jw zdL (s.drop (zb1 s a)) else zb1 s a
 | none=>zb1 s a
structure Tok where
 kind:UInt8
 text:List UInt8
 pos:Nat
 deriving DecidableEq
def zaN (s:List UInt8) (a:Nat) (c:UInt8):Nat :=
 if z7 c=3 then a+1+jw qp (s.drop (a+1)) else if z7 c=4 then a+1+jw zbk (s.drop (a+1)) else
  if (eqB c 61||eqB c 33)&&decide (s[a+1]?=some 61) then a+2 else a+1
def zfO (c:UInt8):UInt8:=if z7 c=3 then 1 else if z7 c=4 then 2 else 3
def zjI (s:List UInt8) (a:Nat) (c:UInt8):Tok:=⟨zfO c,(s.drop a).take (zaN s a c-a),a⟩
def jT (s:List UInt8) (a:Nat):Bool:=match s[a]? with
 | some c=>decide (z7 c=2)
 | none=>true
def zae (s:List UInt8):Nat->Nat->Bool->Option (Tok×Nat×Bool)
 | 0,_,_=>none
 | f+1,a,op=>match s[zF s a]? with
  | some c=>if z7 c=2 then (if op then some (⟨4,[],zF s a⟩,min (zF s a+1) s.length,false) else zae s f (min (zF s a+1) s.length) false)
   else some (zjI s (zF s a) c,zaN s (zF s a) c,true)
  | none=>if op then some (⟨4,[],zF s a⟩,min (zF s a+1) s.length,false) else none
def zcf (s:List UInt8):Nat->Nat->Bool->List Tok
 | 0,_,_=>[]
 | f+1,a,op=>match zae s (s.length+2) a op with
  | some (t,a',op')=>t::zcf s f a' op'
  | none=>[]
def zi4 (s:List UInt8):Bool:=decide (1<=s.length)&&(decide (s.length<=3)&&(!(decide (s.head?=some 48)&&decide (1<s.length))&&(s.all zbk&&decide (s.foldl (fun v c=>10*v+(c.toNat-48)) 0<=255))))
def jb (t:Tok):Int :=
 if t.kind=1 then (if 16<t.text.length then 42 else 0) else if t.kind=2 then (if zi4 t.text then 0 else 41) else
 if t.kind=3 then (match t.text with | c::_=>if z7 c=6 then 0 else 40 | []=>0) else 0
def qH (s:List UInt8):List Tok:=zcf s (2*s.length+3) 0 false
def zoC (l:List Tok) (s:List UInt8):Bool:=match l with
 | [t,_]=>decide (t.kind=1)&&decide (t.text=s)
 | _=>false
def zdx (s:List UInt8):Bool:=decide (s.length<=16384)&&((qH s).all (fun t=>decide (jb t=0))&&zoC (qH s) s)
structure InsD where
 op:UInt8
 dst:UInt8
 loc:UInt8
 ar:Bool
 an:UInt8
 br:Bool
 bn:UInt8
 fn:UInt8
 mode:UInt8
 skip:UInt8
 deriving DecidableEq
inductive Cnd where
 | mk (kind thread n val:UInt8) (kids:List Cnd)
def Cnd.kind:Cnd->UInt8 | .mk k _ _ _ _=>k
def Cnd.thread:Cnd->UInt8 | .mk _ t _ _ _=>t
def Cnd.n:Cnd->UInt8 | .mk _ _ n _ _=>n
def Cnd.val:Cnd->UInt8 | .mk _ _ _ v _=>v
def Cnd.kids:Cnd->List Cnd | .mk _ _ _ _ l=>l
structure Prg where
 name:List UInt8
 locs:List (List UInt8)
 init:List UInt8
 threads:List (List InsD)
 ask:UInt8
 cond:Cnd
def zsx:List (List UInt8):=[[116,101,115,116],[105,110,105,116],[116,104,114,101,97,100],[115,111,109,101],[110,111,110,101],[97,108,108],[97,99,113],[114,101,108],[115,119,97,112],[102,101,116,99,104],[99,97,115],
 [102,101,110,99,101],[108,111,97,100,115],[115,116,111,114,101,115],[115,107,105,112],[105,102],[116,114,117,101]]
def zg7 (s:List UInt8):Bool:=zsx.any fun k=>decide (s=k)
def qG (s:List UInt8):Nat:=(s.filter zbk).length
def zeH (s:List UInt8):Bool:=match s with
 | []=>false
 | c::r=>decide (r.length+1<=16)&&(decide (z7 c=3)&&(!zg7 (c::r)&&(r.all qp&&(!decide (c=114)||(decide (qG r=0)||decide (qG r<r.length))))))
def zd0:List (List UInt8)->List (List UInt8)->Bool
 | _,[]=>true
 | pre,s::r=>zeH s&&(!(pre.any fun q=>decide (q=s))&&zd0 (pre++[s]) r)
def zeM (p:Prg):Bool:=decide (1<=p.locs.length)&&(decide (p.locs.length<=6)&&(decide (p.init.length=p.locs.length)&&zd0 [] p.locs))
def zeF:List UInt8:=[0,35,38,29,7,7,15,32,92]
def jm (op bit:UInt8):Bool := !decide (zeF.getD op.toNat 0&&&bit=0)
def zgf (x:InsD):InsD where
 op:=x.op
 dst:=if jm x.op 1 then x.dst else 0
 loc:=if jm x.op 2 then x.loc else 0
 ar:=jm x.op 4&&x.ar
 an:=if jm x.op 4 then x.an else 0
 br:=jm x.op 8&&x.br
 bn:=if jm x.op 8 then x.bn else 0
 fn:=if jm x.op 16 then x.fn else 0
 mode:=if jm x.op 32 then x.mode else 0
 skip:=if jm x.op 64 then x.skip else 0
def zeI (x:InsD):Bool:=if x.op=1 then decide (x.mode=0)||decide (x.mode=1) else if x.op=2 then decide (x.mode=0)||decide (x.mode=2) else
 if x.op=7 then decide (x.mode=3)||(decide (x.mode=4)||decide (x.mode=5)) else true
def fnL (x:InsD):Bool:=if x.op=3 then decide (x.fn=1)||(decide (x.fn=2)||decide (x.fn=3)) else if x.op=8 then decide (x.fn=4)||(decide (x.fn=5)||decide (x.fn=6)) else true
def zmf (r:Bool) (n:UInt8):Bool := !r||decide (n.toNat<8)
def qK (x:InsD) (locs after:Nat):List Bool:=[
 decide (1<=x.op.toNat)&&decide (x.op.toNat<=8),
 decide (x=zgf x),
 decide (x.dst.toNat<8),
 !jm x.op 2||decide (x.loc.toNat<locs),
 zmf x.ar x.an&&zmf x.br x.bn,
 zeI x,
 fnL x,
 !jm x.op 64||(decide (1<=x.skip.toNat)&&decide (x.skip.toNat<=after))]
def zpJ (x:InsD) (locs after:Nat):Bool:=(qK x locs after).all id
def jy (l:List InsD) (locs:Nat):Bool:=decide (l.length<=12)&&(List.range l.length).all fun i=>match l[i]? with
 | some x=>zpJ x locs (l.length-1-i)
 | none=>true
def zag (threads locs:Nat):Nat->Cnd->Bool
 | 0,_=>false
 | d+1,.mk k t n v kids =>
  let bare:=decide (t=0)&&(decide (n=0)&&decide (v=0))
  if k=0 then bare&&decide (kids.length=0) else
  if k=1 then decide (t.toNat<threads)&&(decide (n.toNat<8)&&decide (kids.length=0)) else
  if k=2 then decide (n.toNat<locs)&&(decide (t=0)&&decide (kids.length=0)) else
  if k=3\/k=4 then bare&&(decide (2<=kids.length)&&kids.all (zag threads locs d)) else
  if k=5 then bare&&(decide (kids.length=1)&&kids.all (zag threads locs d)) else false
def zgR (p:Prg):Bool:=zdx p.name&&(zeM p&&((decide (1<=p.threads.length)&&(decide (p.threads.length<=4)&&p.threads.all fun l=>decide (l.length<=12))) &&
 (p.threads.all (fun l=>jy l p.locs.length)&&((decide (p.ask=1)||(decide (p.ask=2)||decide (p.ask=3)))&&zag p.threads.length p.locs.length 20 p.cond))))
def els (s:Nat):List Nat:=(List.range 64).filter fun i=>s.testBit i
def ctz (s:Nat):Nat:=(els s).headD 64
def qB (s:Nat):Nat:=s&&&(s-1)
theorem zh2 {s:Nat} (h:s≠0):∃ k m,s=2^k*(2*m+1):=by
 induction s using Nat.strongRecOn with
 | _ s ih =>
  by_cases hp:s%2=1
  ·exact⟨0,s/2,by rw [Nat.pow_zero,Nat.one_mul];omega⟩
  ·obtain⟨k,m,e⟩:=ih (s/2) (by omega) (by omega);refine⟨k+1,m,?_⟩;rw [Nat.pow_succ,UU (2^k) 2,UI,<- e];omega
theorem zdn (k a j:Nat):(2^k*a).testBit j=(decide (k<=j)&&a.testBit (j-k)):=by
 rw [Nat.testBit_two_pow_mul]
theorem ze4 (m j:Nat):(2*m+1).testBit j=match j with | 0=>true | j+1=>m.testBit j:=by
 cases j with
 | zero=>rw [Nat.testBit_zero];simp
 | succ j=>rw [Nat.testBit_succ];congr 1;omega
theorem zkV (m j:Nat):(2*m).testBit j=match j with | 0=>false | j+1=>m.testBit j:=by
 cases j with
 | zero=>rw [Nat.testBit_zero];simp
 | succ j=>rw [Nat.testBit_succ];congr 1;omega
theorem zlq (k m:Nat):qB (2^k*(2*m+1))=2^k*(2*m):=by
 unfold qB;apply Ka;intro j;have h1:=Ue k;have e:2^k*(2*m+1)-1=2^k*(2*m)+(2^k-1):=by rw [Nat.mul_add,Gd];omega
 rw [Ud,e,Nat.testBit_two_pow_mul_add _ (by omega),zdn,zdn];by_cases hj:j<k
 ·rw [Gx hj];have:¬ k<=j:=by omega
  simp [this]
 ·rw [Gw hj,ze4,zkV];have:k<=j:=by omega
  cases h:j-k with
  | zero=>simp
  | succ i=>simp [this]
theorem zgU {n k m:Nat} (hn:0<n) (h:2^k*(2*m+1)<2^n):(2^k*(2*m+1))&&&(2^n-2^k*(2*m+1))=2^k:=by
 have hk:k<n:=by
  apply Qz;intro hk;have h1:2^n<=2^k:=Kb (by decide) hk;have h2:2^k*1<=2^k*(2*m+1):=Nat.mul_le_mul_left _ (by omega);omega
 have h1:=Ue k;have e64:2^n=2^k*2^(n-k):=by rw [<- Nat.pow_add];congr 1;omega
 have e63:2^(n-k)=2*2^(n-1-k):=by rw [<- Nat.pow_succ'];congr 1;omega
 have hm:2*m+1<2^(n-k):=by
  rw [e64] at h;exact Nat.lt_of_mul_lt_mul_left h
 have hm2:m<2^(n-1-k):=by omega
 have e:2^n-2^k*(2*m+1)=2^k*(2*(2^(n-1-k)-(m+1))+1):=by
  rw [e64,<- Nat.mul_sub];congr 1;omega
 rw [e];apply Ka;intro j;rw [Ud,zdn,zdn,ze4,ze4,Kn];by_cases hj:k<=j
 ·cases h:j-k with
  | zero =>
   have:k=j:=by omega
   simp [this]
  | succ i =>
   have:k≠j:=by omega
   show ((decide (k<=j)&&m.testBit i)&&(decide (k<=j)&&(2^(n-1-k)-(m+1)).testBit i))=decide (k=j);rw [Nat.testBit_two_pow_sub_succ hm2]
   cases m.testBit i <;> simp [this]
 ·have:k≠j:=by omega
  simp [hj,this]
theorem zin {k m:Nat} (h:2^k*(2*m+1)<2^64):(2^k*(2*m+1))&&&(2^64-2^k*(2*m+1))=2^k:=zgU (by decide) h
theorem zkF {p:Nat->Bool} {n k:Nat} (hk:k<n) (h1:∀ i,i<k->p i=false) (h2:p k=true) :
  (List.range n).filter p=k::(List.range n).filter (fun i=>p i&&decide (i≠k)):=by
 have e:List.range n=List.range k++k::(List.range (n-k-1)).map (fun i=>k+1+i):=by
  apply List.ext_getElem
  ·simp;omega
  ·intro i h1 h2;rw [Ky];by_cases hi:i<k
   ·rw [List.getElem_append_left (by simpa using hi)];simp
   ·obtain⟨j,rfl⟩:∃ j,i=k+j:=⟨i-k,by omega⟩;rw [List.getElem_append_right (by simp)];simp only [KV,Jw]
    cases j with
    | zero=>simp
    | succ j=>simp;omega
 rw [e,Kv,Kv,Qo,Qo];have f1:(List.range k).filter p=[]:=by
  rw [JB];intro i hi;rw [h1 i (Uq.1 hi)];decide
 have f2:(List.range k).filter (fun i=>p i&&decide (i≠k))=[]:=by
  rw [JB];intro i hi;rw [h1 i (Uq.1 hi)];simp
 rw [f1,f2,h2];simp only [QW,Gu,ne_eq,Qc,Ga,Uk,Kt,Gr];congr 1;apply KR;intro x hx;obtain⟨i,_,rfl⟩:=UO.1 hx;have:k+1+i≠k:=by omega
 simp [this]
theorem ju {s:Nat} (h0:s≠0) (h:s<2^64):els s=ctz s::els (qB s)/\qB s<s/\s&&&(2^64-s)=2^ctz s/\ctz s<64:=by
 obtain⟨k,m,e⟩:=zh2 h0;subst e;have h1:=Ue k;have hk:k<64:=by
  apply Qz;intro hk;have h2:2^64<=2^k:=Kb (by decide) hk;have h3:2^k*1<=2^k*(2*m+1):=Nat.mul_le_mul_left _ (by omega);omega
 have hh:els (2^k*(2*m+1))=k::els (2^k*(2*m)):=by
  unfold els;rw [zkF hk]
  ·congr 1;apply KR;intro i _;rw [zdn,zdn,ze4,zkV]
   cases hi:i-k with
   | zero =>
    by_cases hik:k<=i
    ·have:i=k:=(by omega);simp [this]
    ·simp [hik]
   | succ j =>
    have:i≠k:=(by omega);simp [this]
  ·intro i hi;rw [zdn];have:¬ k<=i:=by omega
   simp [this]
  ·rw [zdn,ze4];simp
 have hc:ctz (2^k*(2*m+1))=k:=by unfold ctz;rw [hh];rfl
 rw [hc,zlq];refine⟨hh,?_,zin h,hk⟩;rw [Nat.mul_add,Gd];omega
theorem zhp {s:Nat} (h0:s≠0) (h:s<2^32):s&&&(2^32-s)=2^ctz s/\ctz s<32:=by
 obtain⟨h1,_,h2,h3⟩:=ju h0 (nL h (by decide));have hc:ctz s<32:=by
  have hm:ctz s∈els s:=by rw [h1];exact Kz
  unfold els at hm;have hb:=(QV.1 hm).2;apply Qz;intro hc;have:=JF (nL h (Kb (by decide) hc));rw [this] at hb;cases hb
 refine⟨?_,hc⟩;obtain⟨k,m,e⟩:=zh2 h0;have h4:s&&&(2^64-s)=2^k:=by rw [e] at h ⊢;exact zin (nL h (by decide))
 have h5:s&&&(2^32-s)=2^k:=by rw [e] at h ⊢;exact zgU (by decide) h
 rw [h5,<- h4,h2]
theorem zbF:els 0=[]:=by
 unfold els;rw [JB];intro i _;simp
theorem ztz {s i:Nat} (h:i∈els s):i<64:=by
 unfold els at h;exact Uq.1 (QV.1 h).1
theorem zgi {s i:Nat}:i∈els s↔i<64/\s.testBit i=true:=by
 unfold els;rw [QV,Uq]
structure Ev where
 th:Int
 k:UInt8
 l:UInt8
 v:UInt8
 m:UInt8
 i:UInt8
 p:UInt8
 deriving DecidableEq
def upd {α:Type} (f:Nat->α) (i:Nat) (v:α):Nat->α:=fun j=>if j=i then v else f j
theorem qZ {α:Type} (f:Nat->α) (i:Nat) (v:α):upd f i v i=v:=by unfold upd;rw [Gx rfl]
theorem zaA {α:Type} (f:Nat->α) {i j:Nat} (v:α) (h:j≠i):upd f i v j=f j:=by unfold upd;rw [Gw h]
structure RunD where
 pc:Nat
 regs:Nat->UInt8
 deps:Nat->Nat
 ctl:Nat
 many:Nat
 ev:Nat->Ev
 data:Nat->Nat
 ctrl:Nat->Nat
 att:Nat->Nat
def ev0:Ev:=⟨0,0,0,0,0,0,0⟩
def znz:RunD:=⟨0,fun _=>0,fun _=>0,0,0,fun _=>ev0,fun _=>0,fun _=>0,fun _=>0⟩
def za0 (r:Bool) (n:UInt8) (R:RunD):UInt8×Nat:=if r then (R.regs n.toNat,R.deps n.toNat) else (n,0)
def zoT (R:RunD) (d v:UInt8) (s:Nat):RunD:={ R with regs:=upd R.regs d.toNat v,deps:=upd R.deps d.toNat s }
def zbZ (R:RunD) (k l v m:UInt8) (d:Nat):RunD :=
 { R with ev:=upd R.ev R.many ⟨0,k,l,v,m,UInt8.ofNat R.pc,UInt8.ofNat R.many⟩,data:=upd R.data R.many d,ctrl:=upd R.ctrl R.many R.ctl,many:=R.many+1 }
def zsv (R:RunD) (x:InsD) (v:UInt8):RunD:=zoT (zbZ R 1 x.loc v x.mode 0) x.dst v (2^R.many)
def zoO (R:RunD) (x:InsD):RunD:=zbZ R 2 x.loc (za0 x.ar x.an R).1 x.mode (za0 x.ar x.an R).2
def zu8 (fn a b:UInt8):UInt8:=if fn=1 then a+b else if fn=2 then a-b else a ^^^ b
def zu0 (R:RunD) (x:InsD):RunD:=zoT R x.dst (zu8 x.fn (za0 x.ar x.an R).1 (za0 x.br x.bn R).1) ((za0 x.ar x.an R).2|||(za0 x.br x.bn R).2)
def zpV (R:RunD) (x:InsD) (old v:UInt8) (d:Nat):RunD :=
 let S:=zbZ (zbZ R 1 x.loc old 3 0) 2 x.loc v 3 d
 zoT { S with att:=upd S.att (R.many+1) (2^R.many) } x.dst old (2^R.many)
def zum (R:RunD) (x:InsD) (v:UInt8):RunD:=zpV R x v (za0 x.ar x.an R).1 (za0 x.ar x.an R).2
def ztq (R:RunD) (x:InsD) (v:UInt8):RunD :=
 let S:=zpV R x v (v+(za0 x.ar x.an R).1) (za0 x.ar x.an R).2
 { S with data:=upd S.data (R.many+1) (S.data (R.many+1)|||S.att (R.many+1)) }
def zvV (R:RunD) (x:InsD) (v:UInt8):RunD :=
 if v=(za0 x.ar x.an R).1 then
  let S:=zpV R x v (za0 x.br x.bn R).1 (za0 x.br x.bn R).2
  { S with ctrl:=upd S.ctrl (R.many+1) (S.ctrl (R.many+1)|||(S.att (R.many+1)|||(za0 x.ar x.an R).2)) }
 else zoT (zbZ R 1 x.loc v 3 0) x.dst v (2^R.many)
def zpT (R:RunD) (x:InsD):RunD:=zbZ R 3 0 0 x.mode 0
def zug (fn a b:UInt8):Bool:=if fn=4 then decide (a=b) else if fn=5 then !decide (a=b) else decide (a.toNat<b.toNat)
def zuo (R:RunD) (x:InsD):RunD :=
 let S:={ R with ctl:=R.ctl|||((za0 x.ar x.an R).2|||(za0 x.br x.bn R).2) }
 if zug x.fn (za0 x.ar x.an R).1 (za0 x.br x.bn R).1 then { S with pc:=R.pc+x.skip.toNat } else S
def zn8 (R:RunD) (x:InsD) (v:UInt8):RunD :=
 if x.op=1 then zsv R x v else if x.op=2 then zoO R x else if x.op=3 then zu0 R x else if x.op=4 then zum R x v else
 if x.op=5 then ztq R x v else if x.op=6 then zvV R x v else if x.op=7 then zpT R x else zuo R x
def qk (R:RunD) (x:InsD) (v:UInt8):RunD:=let S:=zn8 R x v;{ S with pc:=S.pc+1 }
def zdX (x:InsD):Bool:=decide (x.op=1)||(decide (x.op=4)||(decide (x.op=5)||decide (x.op=6)))
def goR (l:List InsD):Nat->RunD->RunD
 | 0,R=>R
 | n+1,R=>match l[R.pc]? with
  | none=>R
  | some x=>if zdX x then R else goR l n (qk R x 0)
def qa (l:List InsD) (dom:List UInt8):Nat->RunD->List RunD
 | 0,R=>[goR l l.length R]
 | n+1,R=>match l[(goR l l.length R).pc]? with
  | none=>[goR l l.length R]
  | some x=>dom.flatMap fun v=>qa l dom n (qk (goR l l.length R) x v)
def zaf (l:List InsD) (dom:List UInt8):List RunD:=qa l dom l.length znz
def zgG (f:Nat->Nat) (n:Nat):List (Nat×Nat):=(List.range n).flatMap fun i=>(els (f i)).map fun a=>(a,i)
structure PathD where
 ev:List Ev
 data:List (Nat×Nat)
 ctrl:List (Nat×Nat)
 rmw:List (Nat×Nat)
 regs:Nat->UInt8
def zck (R:RunD):PathD:=⟨(List.range R.many).map R.ev,zgG R.data R.many,zgG R.ctrl R.many,zgG R.att R.many,R.regs⟩
def qf:List UInt8:=(List.range 256).map UInt8.ofNat
def j6 (rs:List RunD):List UInt8:=qf.filter fun v=>rs.any fun R=>(List.range R.many).any fun i=>decide ((R.ev i).k=2)&&decide ((R.ev i).v=v)
structure RelD where
 n:Int
 to:Nat->Nat
def zB:RelD:=⟨0,fun _=>0⟩
def zax (n:Int):Nat:=if n<1 then 0 else if 64<=n then 18446744073709551615 else 2^n.toNat-1
def za7 (a b:Nat):Nat:=a&&&(18446744073709551615-b)
def zbA (r:RelD) (a:Nat):Bool:=decide (za7 (r.to a) (zax r.n)=0)&&(decide ((a:Int)<r.n)||decide (r.to a=0))
def okR (r:RelD):Bool:=decide (0<=r.n)&&(decide (r.n<=48)&&(List.range 48).all (zbA r))
def jG (n:Nat) (f:Nat->Nat):RelD:=⟨n,fun i=>if i<n then f i else 0⟩
def zdh (to:Nat->Nat) (s:Nat):Nat:=(els s).foldl (fun t a=>t|||to a) 0
def zan (to:Nat->Nat) (n:Nat):Nat->Nat:=(List.range n).foldl (fun f a=>(els (to a)).foldl (fun f b=>upd f b (f b|||2^a)) f) (fun _=>0)
def qP (r:RelD):RelD:=if okR r then ⟨r.n,zan r.to r.n.toNat⟩ else zB
def zkC (r:RelD):Nat:=if okR r then (List.range r.n.toNat).foldl (fun s a=>if r.to a=0 then s else s|||2^a) 0 else 0
def zho (r:RelD):Bool:=okR r&&decide (zkC r=0)
def comb (a b:RelD) (f:Nat->Nat):RelD×Int:=if a.n=b.n&&(okR a&&okR b) then (jG a.n.toNat f,0) else (zB,2)
def zox (a b:RelD):RelD×Int:=comb a b fun i=>a.to i|||b.to i
def zu9 (a b:RelD):RelD×Int:=comb a b fun i=>a.to i&&&b.to i
def zth (a b:RelD):RelD×Int:=comb a b fun i=>za7 (a.to i) (b.to i)
def zfE (a b:RelD):RelD×Int:=comb a b fun i=>zdh b.to (a.to i)
def zdO (before:Nat->Nat) (left:Nat):Option Nat:=(els left).find? fun a=>decide (before a&&&left=0)
def zoD (before:Nat->Nat):Nat->Nat->List Nat->Option (List Nat)
 | 0,left,l=>if left=0 then some l else none
 | n+1,left,l=>if left=0 then some l else match zdO before left with
  | none=>none
  | some a=>zoD before n (za7 left (2^a)) (l++[a])
def zfa (r:RelD):Option (List Nat):=if okR r then zoD (qP r).to 64 (zax r.n) [] else none
def zjt (r:RelD):Bool:=(zfa r).isSome
def zee (n:Nat) (a b:Nat):RelD:=jG n fun x=>if a.testBit x then b&&&zax n else 0
def idR (n:Nat) (s:Nat):RelD:=jG n fun a=>s&&&2^a
def zco (before:Nat->Nat):Nat->Nat->List Nat->List (List Nat)
 | 0,left,l=>if left=0 then [l] else []
 | n+1,left,l=>if left=0 then [l] else (els left).flatMap fun a=>if before a&&&left=0 then zco before n (za7 left (2^a)) (l++[a]) else []
def zcX (r:RelD):List (List Nat):=if zjt r then zco (qP r).to 64 (zax r.n) [] else []
def zar:List Nat->Nat->List Nat
 | [],_=>[]
 | n::ns,j=>j%n::zar ns (j/n)
def qc:List Nat->Nat
 | []=>1
 | n::ns=>n*qc ns
def zbG (sizes:List Nat):List (List Nat):=(List.range (qc sizes.reverse)).map fun j=>(zar sizes.reverse j).reverse
theorem ze0:∀ (rs:List Nat) (j:Nat),(zar rs j).length=rs.length
 | [],_=>rfl
 | n::ns,j=>by
  show (zar ns (j/n)).length+1=ns.length+1;rw [ze0 ns]
theorem ziz:∀ rs:List Nat,zar rs 0=List.replicate rs.length 0
 | []=>rfl
 | n::ns=>by
  show 0%n::zar ns (0/n)=0::List.replicate ns.length 0;rw [Nat.zero_mod,Nat.zero_div,ziz ns]
theorem zia:∀ {rs:List Nat},(∀ n∈rs,n≠0)->0<qc rs
 | [],_=>Nat.one_pos
 | n::ns,h=>Nat.mul_pos (by have:=h n (by simp);omega) (zia fun m hm=>h m (by simp [hm]))
theorem zdY:∀ {rs:List Nat},0∈rs->qc rs=0
 | [],h=>by cases h
 | n::ns,h=>by
  show n*qc ns=0;rcases UF.1 h with h | h
  ·rw [<- h,Nat.zero_mul]
  ·rw [zdY h,Nat.mul_zero]
theorem zfv {n j:Nat} (hn:n≠0):(j%n=n-1->(j+1)%n=0/\(j+1)/n=j/n+1)/\(j%n≠n-1->(j+1)%n=j%n+1/\(j+1)/n=j/n):=by
 have h1:=Ub j n;have h2:=Gl j (KG hn);obtain⟨q,hq⟩:∃ q,j/n=q:=⟨_,rfl⟩;obtain⟨m,hm⟩:∃ m,j%n=m:=⟨_,rfl⟩;rw [hq,hm] at h1 ⊢;rw [hm] at h2;refine⟨fun h=>?_,fun h=>?_⟩
 ·have e:j+1=n*(q+1):=by rw [Nat.mul_add];omega
  rw [e];exact⟨Nat.mul_mod_right _ _,Nat.mul_div_cancel_left _ (KG hn)⟩
 ·have e:j+1=n*q+(m+1):=by omega
  rw [e,Nat.mul_add_mod,QC (by omega),Nat.mul_add_div (KG hn),Nat.div_eq_of_lt (by omega)];exact⟨rfl,rfl⟩
def zhE (rs:List Nat) (j t:Nat):Prop:=∃ A ns k,rs=A++ns/\A.length=t/\zar rs (j+1)=List.replicate t 0++zar ns (k+1)/\(zar rs j).drop t=zar ns k/\qc A*(k+1)=j+1
theorem zdt:∀ A B:List Nat,qc (A++B)=qc A*qc B
 | [],B=>(Nat.one_mul _).symm
 | n::A,B=>by
  show n*qc (A++B)=n*qc A*qc B;rw [zdt A B,UI]
theorem zl7 (rs:List Nat) (j:Nat):zhE rs j 0:=⟨[],rs,j,rfl,rfl,rfl,rfl,Nat.one_mul _⟩
theorem zl9 {rs:List Nat} {j t:Nat} (hr:∀ n∈rs,n≠0) (h:zhE rs j t) {n d:Nat} (hn:rs[t]?=some n) (hd:(zar rs j)[t]?=some d) (he:d=n-1):zhE rs j (t+1):=by
 obtain⟨A,ns,k,h1,h2,h3,h4,h5⟩:=h
 cases ns with
 | nil =>
  rw [h1,QM,JJ (by omega)] at hn
  cases hn
 | cons m ns =>
  have hm:m=n:=by
   rw [h1,Jl (by omega),h2,UV] at hn;exact Ug hn
  subst hm;have hd2:k%m=d:=by
   have:=Gq (fun l=>l[0]?) h4;simp only [Kw,UQ] at this;rw [hd] at this;exact (Ug this).symm
  have hm0:m≠0:=hr m (by rw [h1];simp);obtain⟨e1,e2⟩:=(zfv hm0).1 (hd2.trans he);have hk:k+1=m*(k/m+1):=by
   have:=Ub (k+1) m;rw [e1,e2] at this;omega
  refine⟨A++[m],ns,k/m,by rw [h1];simp,by simp [h2],?_,?_,?_⟩
  ·rw [h3];show _++((k+1)%m::zar ns ((k+1)/m))=_;rw [e1,e2,List.replicate_succ',KO];rfl
  ·rw [<- Um,h4];rfl
  ·rw [<- h5,zdt];show qc A*(m*1)*_=_;rw [Gd,UI,<- hk]
theorem zl8 {rs:List Nat} {j t:Nat} (hr:∀ n∈rs,n≠0) (h:zhE rs j t) {n d:Nat} (hn:rs[t]?=some n) (hd:(zar rs j)[t]?=some d) (he:d≠n-1):zar rs (j+1)=List.replicate t 0++(d+1)::(zar rs j).drop (t+1):=by
 obtain⟨A,ns,k,h1,h2,h3,h4,h5⟩:=h
 cases ns with
 | nil =>
  rw [h1,QM,JJ (by omega)] at hn
  cases hn
 | cons m ns =>
  have hm:m=n:=by
   rw [h1,Jl (by omega),h2,UV] at hn;exact Ug hn
  subst hm;have hd2:k%m=d:=by
   have:=Gq (fun l=>l[0]?) h4;simp only [Kw,UQ] at this;rw [hd] at this;exact (Ug this).symm
  have hm0:m≠0:=hr m (by rw [h1];simp);obtain⟨e1,e2⟩:=(zfv hm0).2 (fun h=>he (hd2.symm.trans h));rw [h3,<- Um,h4];show _++((k+1)%m::zar ns ((k+1)/m))=_;rw [e1,e2,hd2];rfl
theorem zok {rs:List Nat} {j:Nat} (h:zhE rs j rs.length) (hj:j<qc rs):j+1=qc rs:=by
 obtain⟨A,ns,k,h1,h2,h3,h4,h5⟩:=h;have hl:=Gq List.length h1;rw [lap,h2] at hl;have:ns=[]:=List.length_eq_zero_iff.1 (by omega);subst this;rw [QM] at h1;rw [h1] at hj ⊢;have h6:qc A*(k+1)<=qc A:=by omega
 rcases Nat.eq_zero_or_pos (qc A) with h0 | h0
 ·omega
 ·have:k+1<=1:=Nat.le_of_mul_le_mul_left (by omega:qc A*(k+1)<=qc A*1) h0;have:k=0:=by omega
  subst this;omega
theorem zma {rs:List Nat} {j t:Nat} (hr:∀ n∈rs,n≠0) (h:zhE rs j t) {n d:Nat} (hn:rs[t]?=some n) (hd:(zar rs j)[t]?=some d) (he:d≠n-1) (hj:j<qc rs):j+1<qc rs:=by
 obtain⟨A,ns,k,h1,h2,h3,h4,h5⟩:=h
 cases ns with
 | nil =>
  rw [h1,QM,JJ (by omega)] at hn
  cases hn
 | cons m ns =>
  have hm:m=n:=by
   rw [h1,Jl (by omega),h2,UV] at hn;exact Ug hn
  subst hm;have hd2:k%m=d:=by
   have:=Gq (fun l=>l[0]?) h4;simp only [Kw,UQ] at this;rw [hd] at this;exact (Ug this).symm
  have hm0:m≠0:=hr m (by rw [h1];simp);obtain⟨e1,e2⟩:=(zfv hm0).2 (fun h=>he (hd2.symm.trans h));apply Jn;intro hc;have hP:qc rs=qc A*(m*qc ns):=by rw [h1,zdt];rfl
  have hA:0<qc A:=by
   apply KG;intro h0;rw [hP,h0,Nat.zero_mul] at hj;omega
  have h6:qc A*(k+1)=qc A*(m*qc ns):=by omega
  have h7:=Nat.eq_of_mul_eq_mul_left hA h6;rw [h7,Nat.mul_mod_right] at e1;omega
theorem zh6 {L:List Nat} {t d:Nat} (h:L[t]?=some d):(List.replicate t 0++L.drop t).reverse=(L.drop (t+1)).reverse++d::(List.replicate t 0).reverse:=by
 obtain⟨ht,rfl⟩:=Jq.1 h;rw [<- JD ht,Kl,KW,KO];rfl
theorem zsY {L:List Nat} {t d:Nat} (h:L[t]?=some d) {i:Nat} (hi:i+t+1=L.length):(List.replicate t 0++L.drop t).reverse[i]?=some d:=by
 rw [zh6 h,Jl (by simp;omega)];have:i-(L.drop (t+1)).reverse.length=0:=by simp;omega
 rw [this];rfl
theorem zmz {L:List Nat} {t d:Nat} (h:L[t]?=some d) {i:Nat} (hi:i+t+1=L.length) (v:Nat):((List.replicate t 0++L.drop t).reverse).set i v=(List.replicate t 0++v::L.drop (t+1)).reverse:=by
 rw [zh6 h,JP _ _ (by simp;omega)];have:i-(L.drop (t+1)).reverse.length=0:=by simp;omega
 rw [this,Kl,KW,KO];rfl
theorem zo5 {L:List Nat} {t:Nat}:(List.replicate t 0++0::L.drop (t+1)).reverse=(List.replicate (t+1) 0++L.drop (t+1)).reverse:=by
 rw [List.replicate_succ',KO];rfl
structure ExD where
 ev:List Ev
 po:RelD
 rf:RelD
 co:RelD
 dt:RelD
 ct:RelD
 rm:RelD
 regs:Nat->UInt8
 mem:Nat->UInt8
structure MixD where
 base:ExD
 rs:List (Nat×List Nat)
 wr:List (List Nat)
def zdW (n:Nat):RelD:=⟨n,fun _=>0⟩
def ex0 (n:Nat):ExD:=⟨[],zdW n,zdW n,zdW n,zdW n,zdW n,zdW n,fun _=>0,fun _=>0⟩
def zjY (b:Nat):List (Nat×Nat)->(Nat->Nat)->Nat->Nat
 | [],f=>f
 | p::ps,f=>zjY b ps (upd f (b+p.1) (f (b+p.1)|||2^(b+p.2)))
def zls (b:Nat) (ps:List (Nat×Nat)) (r:RelD):RelD:=⟨r.n,zjY b ps r.to⟩
def zj7 (a:Int):Nat->List Ev->Nat->Nat
 | _,[],s=>s
 | j,e::es,s=>zj7 a (j+1) es (if e.th=a then s|||2^j else s)
def zcR (ev:List Ev) (i:Nat):Nat:=match ev[i]? with
 | none=>0
 | some e=>if e.th = -1 then 0 else zj7 e.th (i+1) (ev.drop (i+1)) 0
def poR (ev:List Ev):RelD:=⟨ev.length,zcR ev⟩
def jE:Nat->List UInt8->List Ev
 | _,[]=>[]
 | l,v::vs=>⟨-1,2,UInt8.ofNat l,v,0,0,0⟩::jE (l+1) vs
def zdR (k:Nat) (l:List Ev):List Ev:=l.map fun e=>{ e with th:=k }
def zjr (x:ExD) (k:Nat) (P:PathD):ExD :=
 { x with ev:=x.ev++zdR k P.ev,dt:=zls x.ev.length P.data x.dt,ct:=zls x.ev.length P.ctrl x.ct,rm:=zls x.ev.length P.rmw x.rm,regs:=fun i=>if i/8=k then P.regs (i%8) else x.regs i }
def asR:Nat->List PathD->ExD->ExD
 | _,[],x=>x
 | k,P::Ps,x=>asR (k+1) Ps (zjr x k P)
def zoR (locs:Nat) (Ps:List PathD):Nat:=Ps.foldl (fun n P=>n+P.ev.length) locs
def znh:Nat->List Ev->List (List Nat)->List (List Nat)
 | _,[],W=>W
 | i,e::es,W=>znh (i+1) es (if e.k=2 then W.set e.l.toNat (W.getD e.l.toNat []++[i]) else W)
def zhK (all:List Ev) (W:List (List Nat)):Nat->List Ev->List (Nat×List Nat)
 | _,[]=>[]
 | i,e::es=>if e.k=1 then (i,(W.getD e.l.toNat []).filter fun w=>decide ((all.getD w ev0).v=e.v))::zhK all W (i+1) es else zhK all W (i+1) es
def zqo (init:List UInt8) (Ps:List PathD):ExD :=
 let x:=asR 0 Ps { ex0 (zoR init.length Ps) with ev:=jE 0 init }
 { x with po:=poR x.ev }
def zaa (x:ExD) (locs:Nat):MixD :=
 let W:=znh 0 x.ev (List.replicate locs [])
 ⟨x,zhK x.ev W 0 x.ev,W⟩
def zkk (init:List UInt8) (Ps:List PathD):Option MixD:=if zoR init.length Ps<=48 then some (zaa (zqo init Ps) init.length) else none
def zkQ (lim:Nat):List (List Nat)->Nat->Option Nat
 | [],n=>some n
 | f::fs,n=>if f=[] then none else zkQ lim fs (min (n*f.length) lim)
def zkR (lim len:Nat):Nat->Nat->Nat->Nat
 | 0,_,n=>n
 | m+1,k,n=>if k<len then zkR lim len m (k+1) (min (n*k) lim) else n
def zjl (lim:Nat):List (List Nat)->Nat->Nat
 | [],n=>n
 | l::ls,n=>zjl lim ls (zkR lim l.length l.length 2 n)
def zdm (m:MixD) (lim:Nat):Nat:=match zkQ lim (m.rs.map (·.2)) 1 with
 | none=>0
 | some n=>zjl lim m.wr n
def zaj (w:List Nat):List (List Nat) :=
 let l:=zcX (zee w.length 1 (za7 (zax w.length) 1))
 if l.length<=10000 then l.map fun o=>o.map fun k=>w.getD k 0 else []
def zmS:List Nat->(Nat->Nat)->Nat->(Nat->Nat)
 | [],f,_=>f
 | a::l,f,b=>zmS l (upd f a b) (b|||2^a)
def za6 (l:List Nat) (r:RelD):RelD:=⟨r.n,zmS l.reverse r.to 0⟩
def rfF:List (Nat×List Nat)->List Nat->(Nat->Nat)->Nat->Nat
 | [],_,f=>f
 | (r,s)::rs,ds,f=>rfF rs ds.tail (upd f (s.getD (ds.headD 0) 0) (f (s.getD (ds.headD 0) 0)|||2^r))
def coG (ev:List Ev):Nat->List (List (List Nat))->List Nat->RelD×(Nat->UInt8)->RelD×(Nat->UInt8)
 | _,[],_,p=>p
 | l,R::Rs,ds,p=>coG ev (l+1) Rs ds.tail (za6 (R.getD (ds.headD 0) []) p.1,upd p.2 l (ev.getD ((R.getD (ds.headD 0) []).getLastD 0) ev0).v)
def zaP (m:MixD) (ds:List Nat):ExD :=
 let c:=coG m.base.ev 0 (m.wr.map zaj) (ds.drop m.rs.length) (m.base.co,m.base.mem)
 { m.base with rf:=⟨m.base.rf.n,rfF m.rs ds m.base.rf.to⟩,co:=c.1,mem:=c.2 }
def zbh (m:MixD):List Nat:=m.rs.map (fun r=>r.2.length)++m.wr.map fun w=>(zaj w).length
def zfC (m:MixD):List ExD:=(zbG (zbh m)).map (zaP m)
def zbV (Ts:List (List PathD)):List Nat->List PathD
 | []=>[]
 | d::ds=>match Ts with
  | []=>[]
  | T::Ts=>(match T[d]? with | some P=>[P] | none=>[])++zbV Ts ds
theorem zm2:∀ (rs:List Nat) (j:Nat),(∀ n∈rs,n≠0)->∀ (i n d:Nat),rs[i]?=some n->(zar rs j)[i]?=some d->d<n
 | [],_,_,_,_,_,h,_=>by simp at h
 | m::rs,j,h0,0,n,d,h,hd=>by
  have h:m=n:=by simpa using h
  have hd:j%m=d:=by simpa [zar] using hd
  subst h;subst hd;exact Gl _ (KG (h0 m (by simp)))
 | m::rs,j,h0,i+1,n,d,h,hd=>zm2 rs (j/m) (fun n hn=>h0 n (by simp [hn])) i n d (by simpa using h) (by simpa [zar] using hd)
theorem zm1 {sizes ds:List Nat} (h:ds∈zbG sizes):ds.length=sizes.length/\∀ (i n d:Nat),sizes[i]?=some n->ds[i]?=some d->d<n:=by
 unfold zbG at h;obtain⟨j,hj,rfl⟩:=UO.1 h;have hj:=Uq.1 hj;have h0:∀ n∈sizes.reverse,n≠0:=fun n hn e=>by
  subst e;rw [zdY hn] at hj;omega
 have hl:(zar sizes.reverse j).length=sizes.length:=by rw [ze0,Ki]
 refine⟨by rw [Ki,hl],fun i n d hn hd=>?_⟩;have hi:i<sizes.length:=(Jq.1 hn).1;have e1:=JK (l:=sizes.reverse) (i:=i) (by simpa using hi);rw [List.reverse_reverse,hn] at e1;have e2:=JK (l:=zar sizes.reverse j) (i:=i) (by omega);rw [hd,hl] at e2;rw [Ki] at e1;exact zm2 _ _ h0 _ n d e1.symm e2.symm
theorem zjU:∀ (rs:List (Nat×List Nat)) (r:Nat) (s:List Nat) (ds:List Nat) (f:Nat->Nat),rfF (rs++[(r,s)]) ds f=upd (rfF rs ds f) (s.getD (ds.getD rs.length 0) 0) (rfF rs ds f (s.getD (ds.getD rs.length 0) 0)|||2^r)
 | [],r,s,ds,f=>by
  have:ds.getD 0 0=ds.headD 0:=by cases ds <;> rfl
  show upd f (s.getD (ds.headD 0) 0) _=_;rw [<- this];rfl
 | (r',s')::rs,r,s,ds,f=>by
  have e:ds.getD (rs.length+1) 0=ds.tail.getD rs.length 0:=by
   cases ds with
   | nil=>simp
   | cons a ds=>simp
  show rfF (rs++[(r,s)]) ds.tail _=_;rw [zjU rs r s ds.tail];show _=upd (rfF rs ds.tail _) (s.getD (ds.getD (rs.length+1) 0) 0) (rfF rs ds.tail _ (s.getD (ds.getD (rs.length+1) 0) 0)|||2^r);rw [e]
abbrev zg5 (ev:List Ev) (rk:List Nat):UInt8:=(ev.getD (rk.getLastD 0) ev0).v
theorem zkP (ev:List Ev):∀ (Rs:List (List (List Nat))) (R:List (List Nat)) (l:Nat) (ds:List Nat) (p:RelD×(Nat->UInt8)),
  coG ev l (Rs++[R]) ds p=(za6 (R.getD (ds.getD Rs.length 0) []) (coG ev l Rs ds p).1,upd (coG ev l Rs ds p).2 (l+Rs.length) (zg5 ev (R.getD (ds.getD Rs.length 0) [])))
 | [],R,l,ds,p=>by
  have:ds.getD 0 0=ds.headD 0:=by cases ds <;> rfl
  show (za6 (R.getD (ds.headD 0) []) p.1,upd p.2 l _)=_;rw [<- this];rfl
 | R'::Rs,R,l,ds,p=>by
  have e:ds.getD (Rs.length+1) 0=ds.tail.getD Rs.length 0:=by
   cases ds with
   | nil=>simp
   | cons a ds=>simp
  show coG ev (l+1) (Rs++[R]) ds.tail _=_;rw [zkP ev Rs R (l+1) ds.tail];show _=(za6 (R.getD (ds.getD (Rs.length+1) 0) []) _,upd _ (l+(Rs.length+1)) (zg5 ev (R.getD (ds.getD (Rs.length+1) 0) [])));rw [e,show l+1+Rs.length=l+(Rs.length+1) by omega];rfl
def zgr (r:RelD):Bool:=(List.range 48).all fun i=>decide (r.to i<2^64)
def zpq (m:MixD):Bool :=
 decide (m.base.ev.length<=48)&&(decide (m.rs.length<=48)&&(decide (m.wr.length<=6)&&(zgr m.base.rf&&(zgr m.base.co &&
  ((m.rs.all fun r=>decide (r.1<48)&&(decide (r.2.length<=1000)&&r.2.all fun s=>decide (s<48))) &&
   (m.wr.all fun w=>decide (w.length<=48)&&(decide ((zaj w).length<=10000)&&(zaj w).all fun k=>decide (k≠[])&&(decide (k.length<=48)&&k.all fun a=>decide (a<m.base.ev.length)))))))))
structure MixB (m:MixD):Prop where
 ev:m.base.ev.length<=48
 rl:m.rs.length<=48
 wl:m.wr.length<=6
 rf:∀ i,i<48->m.base.rf.to i<2^64
 co:∀ i,i<48->m.base.co.to i<2^64
 rs:∀ r∈m.rs,r.1<48/\r.2.length<=1000/\∀ s∈r.2,s<48
 wr:∀ w∈m.wr,w.length<=48/\(zaj w).length<=10000/\∀ k∈zaj w,k≠[]/\k.length<=48/\∀ a∈k,a<m.base.ev.length
theorem zrh {m:MixD} (h:zpq m=true):MixB m:=by
 unfold zpq zgr at h;simp only [bAT,dE,Qk,Uq] at h;obtain⟨h1,h2,h3,h4,h5,h6,h7⟩:=h;exact⟨h1,h2,h3,h4,h5,h6,h7⟩
def zci (a b : RelD) : Bool := decide (a.n = b.n) && (List.range 48).all fun i => decide (a.to i = b.to i)
def zaq (ev : List Ev) : Nat := (ev.takeWhile fun e => decide (e.th = -1)).length
def zkH (locs : Nat) : Nat → List Ev → Int → Nat → Bool
  | _, [], _, _ => true
  | i, e :: es, t, n =>
    if i < locs then (if e = ⟨-1, 2, UInt8.ofNat i, e.v, 0, 0, 0⟩ then zkH locs (i + 1) es t n else false)
    else if e.th < t ∨ 4 ≤ e.th then false
    else
      let t' := if t < e.th then e.th else t
      let n' := if t < e.th then 0 else n
      if e.p.toNat = n' then
        (if e.k = 1 ∨ e.k = 2 then (if e.l.toNat < locs then zkH locs (i + 1) es t' (n' + 1) else false)
         else if e.k = 3 then (if e.l = 0 ∧ e.v = 0 then zkH locs (i + 1) es t' (n' + 1) else false)
         else false)
      else false
def jJ (ev : List Ev) (locs : Nat) : Bool := zkH locs 0 ev 0 0
def evA (x : ExD) (i : Nat) : Ev := x.ev.getD i ev0
def zc2 (x : ExD) (s : Nat) (e : Ev) : Bool :=
  if e.k = 1 then (if s = 0 then false else
    (if s = 2 ^ ctz s then decide ((evA x (ctz s)).k = 2) && (decide ((evA x (ctz s)).l = e.l) && decide ((evA x (ctz s)).v = e.v)) else false))
  else decide (s = 0)
def zbQ (x : ExD) : Bool := (List.range x.ev.length).all fun i => zc2 x ((qP x.rf).to i) (evA x i)
def j4 (key : Nat → Nat) : List Nat → Nat → List Nat
  | [], x => [x]
  | y :: r, x => if key y < key x then y :: j4 key r x else x :: y :: r
def zdJ (key : Nat → Nat) (l : List Nat) : List Nat := (l.foldl (fun acc x => j4 key acc x) []).reverse
def zcl (s : Nat) : Nat := (els s).length
def zcZ (x : ExD) (l : Nat) : List Nat := (List.range x.ev.length).filter fun i => decide ((evA x i).k = 2) && decide ((evA x i).l.toNat = l)
def qo (x : ExD) (l : Nat) : List Nat := zdJ (fun i => zcl (x.co.to i)) (zcZ x l)
def zkO (x : ExD) : Nat → Nat → RelD × (Nat → UInt8) → Option (RelD × (Nat → UInt8))
  | 0, _, p => some p
  | n + 1, l, p => if (qo x l).headD 48 = l then zkO x n (l + 1) (za6 (qo x l) p.1, upd p.2 l (zg5 x.ev (qo x l))) else none
def zb0 (x : ExD) (locs : Nat) : Bool := match zkO x locs 0 (⟨x.ev.length, fun _ => 0⟩, fun _ => 0) with
  | none => false
  | some p => zci p.1 x.co && (List.range 6).all fun l => decide (p.2 l = x.mem l)
def zor (x : ExD) : Nat := (List.range x.ev.length).foldl (fun s i => if (evA x i).k = 2 then s ||| 2 ^ i else s) 0
def zht (x : ExD) (W : Nat) : Nat → List Ev → Nat → Bool
  | _, [], _ => true
  | i, e :: es, h =>
    let d := x.dt.to i
    let c := x.ct.to i
    let r := x.rm.to i
    if d ||| c ||| r = 0 then zht x W (i + 1) es h
    else if e.k = 1 ∧ za7 (d ||| r) W = 0 ∧ za7 (d ||| c ||| r) (x.po.to i) = 0 then
      (if r = 0 then zht x W (i + 1) es h
       else if r = 2 ^ ctz r ∧ h.testBit (ctz r) = false ∧ (evA x (ctz r)).l = e.l then zht x W (i + 1) es (h ||| r) else false)
    else false
def zbd (x : ExD) : Bool := zht x (zor x) 0 x.ev 0
def zch (x : ExD) : Bool := [x.po, x.rf, x.co, x.dt, x.ct, x.rm].all fun r => decide (r.n = x.ev.length) && okR r
def ja (x : ExD) : Bool :=
  decide (x.ev.length ≤ 48) && (decide (1 ≤ zaq x.ev) && (decide (zaq x.ev ≤ 6) && (jJ x.ev (zaq x.ev) && (zch x && (zci x.po (poR x.ev) && (zbQ x && (zb0 x (zaq x.ev) && zbd x)))))))
end Go.Sei
namespace Go.Vc
open Go.RowKit
inductive Mk where
 | p
 | s (a b:Mk)
 | c (a b:Mk)
 | d (a b:Mk)
 | b (a:Mk)
 | l (a:Mk)
def zsm (first:(Exit->Env->Wd->Prop)->Prop) (second:Env->Wd->(Exit->Env->Wd->Prop)->Prop) (Q:Exit->Env->Wd->Prop):Prop :=
 ∃ (σ:Type) (env:σ->Env) (inv:σ->Wd->Prop),(first fun ex E' w'=>match ex with
  | .normal=>∃ s,Cov E' (env s)/\inv s w'
  | ex=>Q ex E' w')/\∀ s w',inv s w'->second (env s) w' Q
noncomputable def wpM (S:Sig) (m:Mk):Code->Env->Wd->(Exit->Env->Wd->Prop)->Prop :=
 Mk.rec (motive:=fun _=>Code->Env->Wd->(Exit->Env->Wd->Prop)->Prop)
  (fun c E w Q=>wpE S c E w Q)
  (fun _ _ ia ib c E w Q=>match c with
   | .seq x y=>ia x E w fun ex E' w'=>match ex with
    | .normal=>ib y E' w' Q
    | ex=>Q ex E' w'
   | _=>False)
  (fun _ _ ia ib c E w Q=>match c with
   | .seq x y=>zsm (fun Q=>ia x E w Q) (fun E w Q=>ib y E w Q) Q
   | _=>False)
  (fun _ _ ia ib c E w Q=>match c with
   | .cond c x y=>(match opd E c with
    | some (.bool v)=>Br v (ia x E w Q) (ib y E w Q)
    | _=>False)
   | _=>False)
  (fun _ ia c E w Q=>match c with
   | .block id x=>ia x E w fun ex E' w'=>match ex with
    | .exit id'=>(match Nat.beq id' id with
     | true=>Q .normal E' w'
     | false=>Q (.exit id') E' w')
    | ex=>Q ex E' w'
   | _=>False)
  (fun _ ia c E w Q=>match c with
   | .loop x=>zqz (fun E w Q=>ia x E w Q) E w Q
   | _=>False)
  m
section
variable {S:Sig}
theorem jM (hS:SigOk S):∀ (m:Mk) (c:Code) (E:Env) (a:Act) (w:Wd) (Q:Exit->Env->Wd->Prop),Agrees S a E->wpM S m c E w Q->c.wpIn (FR S.r) NN S.P (zeP S Q) a w
 | .p,c,E,a,w,Q,ha,h=>qE hS c E a w Q ha h
 | .s m k,.seq x y,E,a,w,Q,ha,h=>by
  replace h:(wpM S m x E w fun ex E' w'=>match ex with | .normal=>wpM S k y E' w' Q | ex=>Q ex E' w'):=h;refine wpIn_seq (Gn (jM hS m x E a w _ ha h) ?_);rintro ex a' w' ⟨E',ha',hq⟩
  cases ex with
  | normal=>exact jM hS k y E' a' w' Q ha' hq
  | _=>exact⟨E',ha',hq⟩
 | .c m k,.seq x y,E,a,w,Q,ha,h=>by
  replace h:zsm (fun Q=>wpM S m x E w Q) (fun E w Q=>wpM S k y E w Q) Q:=h;obtain⟨σ,env,inv,h1,h2⟩:=h;refine wpIn_seq (Gn (jM hS m x E a w _ ha h1) ?_);rintro ex a' w' ⟨E',ha',hq⟩
  cases ex with
  | normal =>
   obtain⟨s,hc,hi⟩:=hq;exact jM hS k y (env s) a' w' Q (ha'.cov hc) (h2 s w' hi)
  | _=>exact⟨E',ha',hq⟩
 | .d m k,.cond c x y,E,a,w,Q,ha,h=>by
  replace h:(match opd E c with | some (.bool v)=>Br v (wpM S m x E w Q) (wpM S k y E w Q) | _=>False):=h
  split at h
  ·rename_i b hb;refine wpIn_cond_split (ha.eval hb) (fun e=>jM hS m x E a w Q ha (h.1 e)) (fun e=>jM hS k y E a w Q ha (h.2 e))
  ·exact h.elim
 | .b m,.block id x,E,a,w,Q,ha,h=>by
  replace h:(wpM S m x E w fun ex E' w'=>match ex with | .exit id'=>(match Nat.beq id' id with | true=>Q .normal E' w' | false=>Q (.exit id') E' w') | ex=>Q ex E' w'):=h;refine wpIn_block (Gn (jM hS m x E a w _ ha h) ?_);rintro ex a' w' ⟨E',ha',hq⟩
  cases ex with
  | exit id' =>
   simp only [Exit.inBlock];dsimp only at hq
   split at hq
   ·rename_i hb;rw [Gx (JR hb)];exact⟨E',ha',hq⟩
   ·rename_i hb;rw [Gw (Nat.ne_of_beq_eq_false hb)];exact⟨E',ha',hq⟩
  | _=>exact⟨E',ha',hq⟩
 | .l m,.loop x,E,a,w,Q,ha,h=>by
  replace h:zqz (fun E w Q=>wpM S m x E w Q) E w Q:=h;obtain⟨σ,env,inv,μ,s0,hc,hi,hb⟩:=h;have key:∀ m s a w,μ s=m->Agrees S a (env s)->inv s w->(Code.loop x).wpIn (FR S.r) NN S.P (zeP S Q) a w:=by
   intro m' s a w hm ha hi;refine wpIn_loop (fun a w=>∃ s,Agrees S a (env s)/\inv s w) (fun a w=>leastOf (fun k=>∃ s,Agrees S a (env s)/\inv s w/\μ s=k)) ⟨s,ha,hi⟩ ?_;intro a w ⟨s1,ha1,hi1⟩;obtain⟨⟨s2,ha2,hi2,hm2⟩,_⟩:=leastOf_spec (p:=fun k=>∃ s,Agrees S a (env s)/\inv s w/\μ s=k) ⟨_,s1,ha1,hi1,rfl⟩;refine Gn (jM hS m x (env s2) a w _ ha2 (hb s2 w hi2)) ?_;rintro ex a' w' ⟨E',ha',hq⟩
   cases ex with
   | normal =>
    obtain⟨s',hc',hi',hlt⟩:=hq;refine⟨⟨s',ha'.cov hc',hi'⟩,?_⟩;have:=(leastOf_spec (p:=fun k=>∃ s,Agrees S a' (env s)/\inv s w'/\μ s=k) ⟨_,s',ha'.cov hc',hi',rfl⟩).2;rw [<- hm2];exact KE (this _ ⟨s',ha'.cov hc',hi',rfl⟩) hlt
   | _=>exact⟨E',ha',hq⟩
  exact key _ s0 a w rfl (ha.cov hc) hi
 | .s _ _,.skip,_,_,_,_,_,h=>h.elim
 | .s _ _,.region _ _ _,_,_,_,_,_,h=>h.elim
 | .s _ _,.cond _ _ _,_,_,_,_,_,h=>h.elim
 | .s _ _,.block _ _,_,_,_,_,_,h=>h.elim
 | .s _ _,.loop _,_,_,_,_,_,h=>h.elim
 | .s _ _,.rangeFunc _ _ _ _,_,_,_,_,_,h=>h.elim
 | .s _ _,.exit _,_,_,_,_,_,h=>h.elim
 | .s _ _,.scope _,_,_,_,_,_,h=>h.elim
 | .s _ _,.label _,_,_,_,_,_,h=>h.elim
 | .s _ _,.goto _,_,_,_,_,_,h=>h.elim
 | .s _ _,.ret,_,_,_,_,_,h=>h.elim
 | .s _ _,.refuse _,_,_,_,_,_,h=>h.elim
 | .c _ _,.skip,_,_,_,_,_,h=>h.elim
 | .c _ _,.region _ _ _,_,_,_,_,_,h=>h.elim
 | .c _ _,.cond _ _ _,_,_,_,_,_,h=>h.elim
 | .c _ _,.block _ _,_,_,_,_,_,h=>h.elim
 | .c _ _,.loop _,_,_,_,_,_,h=>h.elim
 | .c _ _,.rangeFunc _ _ _ _,_,_,_,_,_,h=>h.elim
 | .c _ _,.exit _,_,_,_,_,_,h=>h.elim
 | .c _ _,.scope _,_,_,_,_,_,h=>h.elim
 | .c _ _,.label _,_,_,_,_,_,h=>h.elim
 | .c _ _,.goto _,_,_,_,_,_,h=>h.elim
 | .c _ _,.ret,_,_,_,_,_,h=>h.elim
 | .c _ _,.refuse _,_,_,_,_,_,h=>h.elim
 | .d _ _,.skip,_,_,_,_,_,h=>h.elim
 | .d _ _,.region _ _ _,_,_,_,_,_,h=>h.elim
 | .d _ _,.seq _ _,_,_,_,_,_,h=>h.elim
 | .d _ _,.block _ _,_,_,_,_,_,h=>h.elim
 | .d _ _,.loop _,_,_,_,_,_,h=>h.elim
 | .d _ _,.rangeFunc _ _ _ _,_,_,_,_,_,h=>h.elim
 | .d _ _,.exit _,_,_,_,_,_,h=>h.elim
 | .d _ _,.scope _,_,_,_,_,_,h=>h.elim
 | .d _ _,.label _,_,_,_,_,_,h=>h.elim
 | .d _ _,.goto _,_,_,_,_,_,h=>h.elim
 | .d _ _,.ret,_,_,_,_,_,h=>h.elim
 | .d _ _,.refuse _,_,_,_,_,_,h=>h.elim
 | .b _,.skip,_,_,_,_,_,h=>h.elim
 | .b _,.region _ _ _,_,_,_,_,_,h=>h.elim
 | .b _,.seq _ _,_,_,_,_,_,h=>h.elim
 | .b _,.cond _ _ _,_,_,_,_,_,h=>h.elim
 | .b _,.loop _,_,_,_,_,_,h=>h.elim
 | .b _,.rangeFunc _ _ _ _,_,_,_,_,_,h=>h.elim
 | .b _,.exit _,_,_,_,_,_,h=>h.elim
 | .b _,.scope _,_,_,_,_,_,h=>h.elim
 | .b _,.label _,_,_,_,_,_,h=>h.elim
 | .b _,.goto _,_,_,_,_,_,h=>h.elim
 | .b _,.ret,_,_,_,_,_,h=>h.elim
 | .b _,.refuse _,_,_,_,_,_,h=>h.elim
 | .l _,.skip,_,_,_,_,_,h=>h.elim
 | .l _,.region _ _ _,_,_,_,_,_,h=>h.elim
 | .l _,.seq _ _,_,_,_,_,_,h=>h.elim
 | .l _,.cond _ _ _,_,_,_,_,_,h=>h.elim
 | .l _,.block _ _,_,_,_,_,_,h=>h.elim
 | .l _,.rangeFunc _ _ _ _,_,_,_,_,_,h=>h.elim
 | .l _,.exit _,_,_,_,_,_,h=>h.elim
 | .l _,.scope _,_,_,_,_,_,h=>h.elim
 | .l _,.label _,_,_,_,_,_,h=>h.elim
 | .l _,.goto _,_,_,_,_,_,h=>h.elim
 | .l _,.ret,_,_,_,_,_,h=>h.elim
 | .l _,.refuse _,_,_,_,_,_,h=>h.elim
theorem zhw (hS:SigOk S) {f:FuncId} {fn:Func} {c:Code} {args:List Value} {w:Wd} {R:Ending->Wd->Prop} (m:Mk)
  (hf:S.P.funcs[f]?=some fn) (hb:fn.body=some c) (hn:fn.ntmps=S.n) (hle:args.length<=S.n) (hr:S.r=none)
  (h:wpM S m c ⟨zcU 0 args,[]⟩ w (zj5 S fn R)):Calls S.P f args.toArray w R:=by
 rw [<- callsIn_wide (n:=NN)];have hF:FR none=Fence.wide:=rfl;rw [<- hF];refine Ko hf hb trivial ?_;have ha:Agrees S { tmps:=args.toArray++Array.replicate (fn.ntmps-args.toArray.size) undef,defers:=[] } ⟨zcU 0 args,[]⟩:=by
  refine⟨?_,rfl,fun t v hv=>?_⟩
  ·simp [hn];omega
  ·obtain⟨_,h2⟩:=zcL _ _ _ _ hv;simp only [UW] at h2;have hlt:t<args.length:=(Jq.1 h2).1;simp only [JH,KX,hlt,Gu];simpa using h2
 have h1:=jM hS m c _ _ w _ ha h;rw [hr] at h1;refine Gn h1 ?_;rintro ex a' w' ⟨E',ha',hq⟩
 cases ex with
 | normal=>have:=jD hS ha' _ _ hq;rw [<- ha'.defers] at this;exact this
 | ret=>have:=jD hS ha' _ _ hq;rw [<- ha'.defers] at this;exact this
 | panic ch =>
  obtain⟨hd,hR⟩:=hq;show LeavesInM _ _ _ _ _ _ a'.defers _ _;rw [ha'.defers,hd];exact hR
 | exit _=>exact hq.elim
 | goto _=>exact hq.elim
 | outgrown=>exact hq.elim
end
end Go.Vc
namespace Go.Proofs.YtnadlhpkpnfmbaaGreatDoor
open Go.Vc Go.RowKit
abbrev zU6:Value := .int .u64 0
abbrev zU8:Value := .int .u8 0
abbrev zU3:Value := .int .u32 0
abbrev zI6:Value := .int .i64 0
def zvr:List Value:=[zI6,zU6,zU6,zU6,zU6,zU6,zU6,zU6,zU6,zU6,zU6,zU6,zU6,zU6,zU6,zU6,zU6,zU6,zU6,zU6,zU6,zU6,zU6,zU6,zU6,zU6,zU6,zU6,zU6,zU6,zU6,zU6,zU6,zU6,zU6,zU6,zU6,zU6,zU6,zU6,zU6,zU6,zU6,zU6,zU6,zU6,zU6,zU6,zU6]
def zng:List Value:=[.slice none 0 0,zI6,zU6,zU6,zU6,zU6,zU6,zU6,zU6,zU6,zU6,zU6,zU6,zU6,zU6,zU6,zU6,zU6,zU6,zU6,zU6,zU6,zU6,zU6,zU6,zU6,zU6,zU6,zU6,zU6,zU6,zU6,zU6,zU6,zU6,zU6,zU6,zU6,zU6,zU6,zU6,zU6,zU6,zU6,zU6,zU6,zU6,zU6,zU6,zU6,zI6,zU6,zU6,zU6,zU6,zU6,zU6,zU6,zU6,zU6,zU6,zU6,zU6,zU6,zU6,zU6,zU6,zU6,zU6,zU6,zU6,zU6,zU6,zU6,zU6,zU6,zU6,zU6,zU6,zU6,zU6,zU6,zU6,zU6,zU6,zU6,zU6,zU6,zU6,zU6,zU6,zU6,zU6,zU6,zU6,zU6,zU6,zU6,zU6,zI6,zU6,zU6,zU6,zU6,zU6,zU6,zU6,zU6,zU6,zU6,zU6,zU6,zU6,zU6,zU6,zU6,zU6,zU6,zU6,zU6,zU6,zU6,zU6,zU6,zU6,zU6,zU6,zU6,zU6,zU6,zU6,zU6,zU6,zU6,zU6,zU6,zU6,zU6,zU6,zU6,zU6,zU6,zU6,zU6,zU6,zU6,zU6,zU6,zI6,zU6,zU6,zU6,zU6,zU6,zU6,zU6,zU6,zU6,zU6,zU6,zU6,zU6,zU6,zU6,zU6,zU6,zU6,zU6,zU6,zU6,zU6,zU6,zU6,zU6,zU6,zU6,zU6,zU6,zU6,zU6,zU6,zU6,zU6,zU6,zU6,zU6,zU6,zU6,zU6,zU6,zU6,zU6,zU6,zU6,zU6,zU6,zU6,zI6,zU6,zU6,zU6,zU6,zU6,zU6,zU6,zU6,zU6,zU6,zU6,zU6,zU6,zU6,zU6,zU6,zU6,zU6,zU6,zU6,zU6,zU6,zU6,zU6,zU6,zU6,zU6,zU6,zU6,zU6,zU6,zU6,zU6,zU6,zU6,zU6,zU6,zU6,zU6,zU6,zU6,zU6,zU6,zU6,zU6,zU6,zU6,zU6,zI6,zU6,zU6,zU6,zU6,zU6,zU6,zU6,zU6,zU6,zU6,zU6,zU6,zU6,zU6,zU6,zU6,zU6,zU6,zU6,zU6,zU6,zU6,zU6,zU6,zU6,zU6,zU6,zU6,zU6,zU6,zU6,zU6,zU6,zU6,zU6,zU6,zU6,zU6,zU6,zU6,zU6,zU6,zU6,zU6,zU6,zU6,zU6,zU6,zU8,zU8,zU8,zU8,zU8,zU8,zU8,zU8,zU8,zU8,zU8,zU8,zU8,zU8,zU8,zU8,zU8,zU8,zU8,zU8,zU8,zU8,zU8,zU8,zU8,zU8,zU8,zU8,zU8,zU8,zU8,zU8,zU8,zU8,zU8,zU8,zU8,zU8]
def zso:List Value:=[.slice none 0 0,zI6,zU6,zU6,zU6,zU6,zU6,zU6,zU6,zU6,zU6,zU6,zU6,zU6,zU6,zU6,zU6,zU6,zU6,zU6,zU6,zU6,zU6,zU6,zU6,zU6,zU6,zU6,zU6,zU6,zU6,zU6,zU6,zU6,zU6,zU6,zU6,zU6,zU6,zU6,zU6,zU6,zU6,zU6,zU6,zU6,zU6,zU6,zU6,zU6,zI6,zU6,zU6,zU6,zU6,zU6,zU6,zU6,zU6,zU6,zU6,zU6,zU6,zU6,zU6,zU6,zU6,zU6,zU6,zU6,zU6,zU6,zU6,zU6,zU6,zU6,zU6,zU6,zU6,zU6,zU6,zU6,zU6,zU6,zU6,zU6,zU6,zU6,zU6,zU6,zU6,zU6,zU6,zU6,zU6,zU6,zU6,zU6,zU6,zI6,zU6,zU6,zU6,zU6,zU6,zU6,zU6,zU6,zU6,zU6,zU6,zU6,zU6,zU6,zU6,zU6,zU6,zU6,zU6,zU6,zU6,zU6,zU6,zU6,zU6,zU6,zU6,zU6,zU6,zU6,zU6,zU6,zU6,zU6,zU6,zU6,zU6,zU6,zU6,zU6,zU6,zU6,zU6,zU6,zU6,zU6,zU6,zU6,zI6,zU6,zU6,zU6,zU6,zU6,zU6,zU6,zU6,zU6,zU6,zU6,zU6,zU6,zU6,zU6,zU6,zU6,zU6,zU6,zU6,zU6,zU6,zU6,zU6,zU6,zU6,zU6,zU6,zU6,zU6,zU6,zU6,zU6,zU6,zU6,zU6,zU6,zU6,zU6,zU6,zU6,zU6,zU6,zU6,zU6,zU6,zU6,zU6,zI6,zU6,zU6,zU6,zU6,zU6,zU6,zU6,zU6,zU6,zU6,zU6,zU6,zU6,zU6,zU6,zU6,zU6,zU6,zU6,zU6,zU6,zU6,zU6,zU6,zU6,zU6,zU6,zU6,zU6,zU6,zU6,zU6,zU6,zU6,zU6,zU6,zU6,zU6,zU6,zU6,zU6,zU6,zU6,zU6,zU6,zU6,zU6,zU6,zI6,zU6,zU6,zU6,zU6,zU6,zU6,zU6,zU6,zU6,zU6,zU6,zU6,zU6,zU6,zU6,zU6,zU6,zU6,zU6,zU6,zU6,zU6,zU6,zU6,zU6,zU6,zU6,zU6,zU6,zU6,zU6,zU6,zU6,zU6,zU6,zU6,zU6,zU6,zU6,zU6,zU6,zU6,zU6,zU6,zU6,zU6,zU6,zU6,zU8,zU8,zU8,zU8,zU8,zU8,zU8,zU8,zU8,zU8,zU8,zU8,zU8,zU8,zU8,zU8,zU8,zU8,zU8,zU8,zU8,zU8,zU8,zU8,zU8,zU8,zU8,zU8,zU8,zU8,zU8,zU8,zU8,zU8,zU8,zU8,zU8,zU8,zI6,.map none]
def zbl:List Value:=[.slice none 0 0,zI6,zU6,zU6,zU6,zU6,zU6,zU6,zU6,zU6,zU6,zU6,zU6,zU6,zU6,zU6,zU6,zU6,zU6,zU6,zU6,zU6,zU6,zU6,zU6,zU6,zU6,zU6,zU6,zU6,zU6,zU6,zU6,zU6,zU6,zU6,zU6,zU6,zU6,zU6,zU6,zU6,zU6,zU6,zU6,zU6,zU6,zU6,zU6,zU6,zI6,zU6,zU6,zU6,zU6,zU6,zU6,zU6,zU6,zU6,zU6,zU6,zU6,zU6,zU6,zU6,zU6,zU6,zU6,zU6,zU6,zU6,zU6,zU6,zU6,zU6,zU6,zU6,zU6,zU6,zU6,zU6,zU6,zU6,zU6,zU6,zU6,zU6,zU6,zU6,zU6,zU6,zU6,zU6,zU6,zU6,zU6,zU6,zU6,zI6,zU6,zU6,zU6,zU6,zU6,zU6,zU6,zU6,zU6,zU6,zU6,zU6,zU6,zU6,zU6,zU6,zU6,zU6,zU6,zU6,zU6,zU6,zU6,zU6,zU6,zU6,zU6,zU6,zU6,zU6,zU6,zU6,zU6,zU6,zU6,zU6,zU6,zU6,zU6,zU6,zU6,zU6,zU6,zU6,zU6,zU6,zU6,zU6,zI6,zU6,zU6,zU6,zU6,zU6,zU6,zU6,zU6,zU6,zU6,zU6,zU6,zU6,zU6,zU6,zU6,zU6,zU6,zU6,zU6,zU6,zU6,zU6,zU6,zU6,zU6,zU6,zU6,zU6,zU6,zU6,zU6,zU6,zU6,zU6,zU6,zU6,zU6,zU6,zU6,zU6,zU6,zU6,zU6,zU6,zU6,zU6,zU6,zI6,zU6,zU6,zU6,zU6,zU6,zU6,zU6,zU6,zU6,zU6,zU6,zU6,zU6,zU6,zU6,zU6,zU6,zU6,zU6,zU6,zU6,zU6,zU6,zU6,zU6,zU6,zU6,zU6,zU6,zU6,zU6,zU6,zU6,zU6,zU6,zU6,zU6,zU6,zU6,zU6,zU6,zU6,zU6,zU6,zU6,zU6,zU6,zU6,zI6,zU6,zU6,zU6,zU6,zU6,zU6,zU6,zU6,zU6,zU6,zU6,zU6,zU6,zU6,zU6,zU6,zU6,zU6,zU6,zU6,zU6,zU6,zU6,zU6,zU6,zU6,zU6,zU6,zU6,zU6,zU6,zU6,zU6,zU6,zU6,zU6,zU6,zU6,zU6,zU6,zU6,zU6,zU6,zU6,zU6,zU6,zU6,zU6,zU8,zU8,zU8,zU8,zU8,zU8,zU8,zU8,zU8,zU8,zU8,zU8,zU8,zU8,zU8,zU8,zU8,zU8,zU8,zU8,zU8,zU8,zU8,zU8,zU8,zU8,zU8,zU8,zU8,zU8,zU8,zU8,zU8,zU8,zU8,zU8,zU8,zU8,.slice none 0 0,.slice none 0 0,.slice none 0 0]
def zub:List Value:=[zI6,zU8,zU8,zU8,zU8,zU8,zU8,zI6,zU8,zU8,zU8,zU8,zU8,zU8,zI6,zU8,zU8,zU8,zU8,zU8,zU8,zI6,zU8,zU8,zU8,zU8,zU8,zU8,zI6,zU8,zU8,zU8,zU8,zU8,zU8,zI6,zU8,zU8,zU8,zU8,zU8,zU8,zI6,zU8,zU8,zU8,zU8,zU8,zU8,zI6,zU8,zU8,zU8,zU8,zU8,zU8,zI6,zU8,zU8,zU8,zU8,zU8,zU8,zI6,zU8,zU8,zU8,zU8,zU8,zU8,zI6,zU8,zU8,zU8,zU8,zU8,zU8,zI6,zU8,zU8,zU8,zU8,zU8,zU8,zI6,zU8,zU8,zU8,zU8,zU8,zU8,zI6,zU8,zU8,zU8,zU8,zU8,zU8,zI6,zU8,zU8,zU8,zU8,zU8,zU8,zI6,zU8,zU8,zU8,zU8,zU8,zU8,zI6,zU8,zU8,zU8,zU8,zU8,zU8,zI6,zU8,zU8,zU8,zU8,zU8,zU8,zI6,zU8,zU8,zU8,zU8,zU8,zU8,zI6,zU8,zU8,zU8,zU8,zU8,zU8,zI6,zU8,zU8,zU8,zU8,zU8,zU8,zI6,zU8,zU8,zU8,zU8,zU8,zU8,zI6,zU8,zU8,zU8,zU8,zU8,zU8,zI6,zU8,zU8,zU8,zU8,zU8,zU8]
def zmm:List Value:=[zI6,zU8,zU8,zU8,zU8,zU8,zU8,zU8,zU8,zU3,zU3,zU3,zU3,zU3,zU3,zU3,zU3,zU3,zI6,zI6,zU8,zU8,zU8,zU8,zU8,zU8,zI6,zU8,zU8,zU8,zU8,zU8,zU8,zI6,zU8,zU8,zU8,zU8,zU8,zU8,zI6,zU8,zU8,zU8,zU8,zU8,zU8,zI6,zU8,zU8,zU8,zU8,zU8,zU8,zI6,zU8,zU8,zU8,zU8,zU8,zU8,zI6,zU8,zU8,zU8,zU8,zU8,zU8,zI6,zU8,zU8,zU8,zU8,zU8,zU8,zI6,zU8,zU8,zU8,zU8,zU8,zU8,zI6,zU8,zU8,zU8,zU8,zU8,zU8,zI6,zU8,zU8,zU8,zU8,zU8,zU8,zI6,zU8,zU8,zU8,zU8,zU8,zU8,zI6,zU8,zU8,zU8,zU8,zU8,zU8,zI6,zU8,zU8,zU8,zU8,zU8,zU8,zI6,zU8,zU8,zU8,zU8,zU8,zU8,zI6,zU8,zU8,zU8,zU8,zU8,zU8,zI6,zU8,zU8,zU8,zU8,zU8,zU8,zI6,zU8,zU8,zU8,zU8,zU8,zU8,zI6,zU8,zU8,zU8,zU8,zU8,zU8,zI6,zU8,zU8,zU8,zU8,zU8,zU8,zI6,zU8,zU8,zU8,zU8,zU8,zU8,zI6,zU8,zU8,zU8,zU8,zU8,zU8,zI6,zU8,zU8,zU8,zU8,zU8,zU8,zI6,zU8,zU8,zU8,zU8,zU8,zU8,zU3,zU3,zU3,zU3,zU3,zU3,zU3,zU3,zU3,zU3,zU3,zU3,zU3,zU3,zU3,zU3,zU3,zU3,zU3,zU3,zU3,zU3,zU3,zU3,zU3,zU3,zU3,zU3,zU3,zU3,zU3,zU3,zU3,zU3,zU3,zU3,zU3,zU3,zU3,zU3,zU3,zU3,zU3,zU3,zU3,zU3,zU3,zU3,zU3,zU3,zU3,zU3,zU3,zU3,zU3,zU3,zU3,zU3,zU3,zU3,zU3,zU3,zU3,zU3,zU3,zU3,zU3,zU3,zU3,zU3,zU3,zU3]
def tt:TT:=[
 (0,⟨.other,1,false,0,none⟩),
 (3,⟨.int .i64,1,false,8,some [.int .i64 0]⟩),
 (4,⟨.bool,1,false,1,some [.bool false]⟩),
 (5,⟨.int .u8,1,false,1,some [.int .u8 0]⟩),
 (9,⟨.string,1,false,16,some [.string ByteArray.empty]⟩),
 (22,⟨.slice 24 3,1,false,24,some [.slice none 0 0]⟩),
 (24,⟨.struct [(0,1,false),(1,1,false),(2,1,false)],3,true,48,some [.int .u8 0,.string ByteArray.empty,.slice none 0 0]⟩),
 (25,⟨.slice 158 7,1,false,24,some [.slice none 0 0]⟩),
 (26,⟨.int .u64,1,false,8,some [.int .u64 0]⟩),
 (27,⟨.int .u64,1,false,8,some [.int .u64 0]⟩),
 (28,⟨.array 48 27 1 false,48,true,384,some (List.replicate 48 (.int .u64 0))⟩),
 (30,⟨.struct [(0,1,false),(1,48,true)],49,true,392,some zvr⟩),
 (31,⟨.array 8 5 1 false,8,true,8,some (List.replicate 8 (.int .u8 0))⟩),
 (32,⟨.array 4 31 8 true,32,true,32,some (List.replicate 32 (.int .u8 0))⟩),
 (33,⟨.array 6 5 1 false,6,true,6,some (List.replicate 6 (.int .u8 0))⟩),
 (35,⟨.struct [(0,32,true),(32,6,true)],38,true,38,some (List.replicate 38 (.int .u8 0))⟩),
 (37,⟨.struct [(0,1,false),(1,49,true),(50,49,true),(99,49,true),(148,49,true),(197,49,true),(246,49,true),(295,38,true)],333,true,2416,some zng⟩),
 (40,⟨.other,1,false,8,some [.nilFunc]⟩),
 (41,⟨.other,1,false,8,some [.nilFunc]⟩),
 (42,⟨.int .i64,1,false,8,some [.int .i64 0]⟩),
 (43,⟨.other,1,false,0,none⟩),
 (45,⟨.slice 49 5,1,false,24,some [.slice none 0 0]⟩),
 (47,⟨.struct [(0,1,false)],1,true,24,some [.slice none 0 0]⟩),
 (49,⟨.struct [(0,1,false),(1,1,false),(2,3,true)],5,true,72,some [.int .u8 0,.string ByteArray.empty,.int .u8 0,.string ByteArray.empty,.slice none 0 0]⟩),
 (62,⟨.other,1,false,0,none⟩),
 (65,⟨.other,1,false,0,none⟩),
 (67,⟨.array 4 9 1 false,4,true,64,some [.string ByteArray.empty,.string ByteArray.empty,.string ByteArray.empty,.string ByteArray.empty]⟩),
 (72,⟨.slice 5 1,1,false,24,some [.slice none 0 0]⟩),
 (75,⟨.other,1,false,0,none⟩),
 (82,⟨.ptr 30,1,false,8,some [.pointer none]⟩),
 (83,⟨.slice 82 1,1,false,24,some [.slice none 0 0]⟩),
 (86,⟨.ptr 37,1,false,8,some [.pointer none]⟩),
 (89,⟨.slice 37 333,1,false,24,some [.slice none 0 0]⟩),
 (90,⟨.other,1,false,0,none⟩),
 (92,⟨.slice 9 1,1,false,24,some [.slice none 0 0]⟩),
 (94,⟨.struct [(0,1,false),(1,1,false)],2,true,2,some [.bool false,.int .u8 0]⟩),
 (96,⟨.struct [(0,1,false),(1,1,false),(2,1,false),(3,2,true),(5,2,true),(7,1,false),(8,1,false),(9,1,false)],10,true,10,some [.int .u8 0,.int .u8 0,.int .u8 0,.bool false,.int .u8 0,.bool false,.int .u8 0,.int .u8 0,.int .u8 0,.int .u8 0]⟩),
 (97,⟨.slice 96 10,1,false,24,some [.slice none 0 0]⟩),
 (98,⟨.slice 97 1,1,false,24,some [.slice none 0 0]⟩),
 (99,⟨.slice 101 5,1,false,24,some [.slice none 0 0]⟩),
 (101,⟨.struct [(0,1,false),(1,1,false),(2,1,false),(3,1,false),(4,1,false)],5,true,32,some [.int .u8 0,.int .u8 0,.int .u8 0,.int .u8 0,.slice none 0 0]⟩),
 (103,⟨.struct [(0,1,false),(1,1,false),(2,1,false),(3,1,false),(4,1,false),(5,5,true)],10,true,128,some [.string ByteArray.empty,.slice none 0 0,.slice none 0 0,.slice none 0 0,.int .u8 0,.int .u8 0,.int .u8 0,.int .u8 0,.int .u8 0,.slice none 0 0]⟩),
 (105,⟨.map 9 4,1,false,8,some [.map none]⟩),
 (106,⟨.other,1,false,0,none⟩),
 (108,⟨.ptr 110,1,false,8,some [.pointer none]⟩),
 (110,⟨.struct [(0,1,false),(1,1,false)],2,true,16,some [.map none,.int .i64 0]⟩),
 (113,⟨.struct [(0,1,false),(1,1,false),(2,1,false)],3,true,40,some [.slice none 0 0,.int .i64 0,.int .i64 0]⟩),
 (115,⟨.ptr 120,1,false,8,some [.pointer none]⟩),
 (118,⟨.map 9 30,1,false,8,some [.map none]⟩),
 (120,⟨.struct [(0,333,true),(333,1,false),(334,1,false)],335,true,2432,some zso⟩),
 (122,⟨.other,1,false,8,some [.nilFunc]⟩),
 (124,⟨.other,1,false,0,none⟩),
 (128,⟨.slice 3 1,1,false,24,some [.slice none 0 0]⟩),
 (132,⟨.ptr 136,1,false,8,some [.pointer none]⟩),
 (134,⟨.struct [(0,1,false),(1,1,false),(2,1,false)],3,true,32,some [.int .u8 0,.string ByteArray.empty,.int .i64 0]⟩),
 (136,⟨.struct [(0,1,false),(1,3,true),(4,1,false),(5,1,false),(6,1,false),(7,1,false),(8,1,false)],9,true,88,some [.string ByteArray.empty,.int .u8 0,.string ByteArray.empty,.int .i64 0,.map none,.map none,.int .i64 0,.int .i64 0,.int .i64 0]⟩),
 (137,⟨.other,1,false,0,none⟩),
 (139,⟨.other,1,false,8,some [.nilFunc]⟩),
 (141,⟨.int .u64,1,false,8,some [.int .u64 0]⟩),
 (158,⟨.struct [(0,1,false),(1,1,false),(2,1,false),(3,1,false),(4,1,false),(5,1,false),(6,1,false)],7,true,16,some [.int .i64 0,.int .u8 0,.int .u8 0,.int .u8 0,.int .u8 0,.int .u8 0,.int .u8 0]⟩),
 (160,⟨.other,1,false,8,some [.nilFunc]⟩),
 (164,⟨.other,1,false,0,none⟩),
 (166,⟨.slice 172 336,1,false,24,some [.slice none 0 0]⟩),
 (167,⟨.other,1,false,0,none⟩),
 (169,⟨.ptr 103,1,false,8,some [.pointer none]⟩),
 (170,⟨.slice 128 1,1,false,24,some [.slice none 0 0]⟩),
 (172,⟨.struct [(0,333,true),(333,1,false),(334,1,false),(335,1,false)],336,true,2488,some zbl⟩),
 (175,⟨.other,1,false,8,some [.nilFunc]⟩),
 (176,⟨.other,1,false,8,some [.nilFunc]⟩),
 (180,⟨.array 10 3 1 false,10,true,80,some (List.replicate 10 (.int .i64 0))⟩),
 (181,⟨.other,1,false,8,some [.nilFunc]⟩),
 (182,⟨.ptr 113,1,false,8,some [.pointer none]⟩),
 (185,⟨.array 10 9 1 false,10,true,160,some (List.replicate 10 (.string ByteArray.empty))⟩),
 (190,⟨.other,1,false,8,some [.nilFunc]⟩),
 (191,⟨.other,1,false,8,some [.nilFunc]⟩),
 (196,⟨.other,1,false,0,none⟩),
 (199,⟨.other,1,false,0,none⟩),
 (201,⟨.other,1,false,0,none⟩),
 (207,⟨.other,1,false,8,some [.nilFunc]⟩),
 (211,⟨.int .u32,1,false,4,some [.int .u32 0]⟩),
 (221,⟨.other,1,false,8,some [.nilFunc]⟩),
 (222,⟨.other,1,false,8,some [.nilFunc]⟩),
 (223,⟨.other,1,false,8,some [.nilFunc]⟩),
 (225,⟨.slice 228 2,1,false,24,some [.slice none 0 0]⟩),
 (228,⟨.struct [(0,1,false),(1,1,false)],2,true,16,some [.int .i64 0,.nilFunc]⟩),
 (230,⟨.other,1,false,0,none⟩),
 (232,⟨.slice 233 1,1,false,24,some [.slice none 0 0]⟩),
 (233,⟨.slice 241 12,1,false,24,some [.slice none 0 0]⟩),
 (234,⟨.other,1,false,0,none⟩),
 (236,⟨.other,1,false,8,some [.nilFunc]⟩),
 (237,⟨.other,1,false,8,some [.nilFunc]⟩),
 (239,⟨.slice 326 2,1,false,24,some [.slice none 0 0]⟩),
 (241,⟨.struct [(0,1,false),(1,1,false),(2,1,false),(3,1,false),(4,8,true)],12,true,104,some [.slice none 0 0,.slice none 0 0,.slice none 0 0,.slice none 0 0,.int .u8 0,.int .u8 0,.int .u8 0,.int .u8 0,.int .u8 0,.int .u8 0,.int .u8 0,.int .u8 0]⟩),
 (242,⟨.other,1,false,0,none⟩),
 (244,⟨.ptr 172,1,false,8,some [.pointer none]⟩),
 (245,⟨.slice 170 1,1,false,24,some [.slice none 0 0]⟩),
 (275,⟨.other,1,false,8,some [.nilFunc]⟩),
 (276,⟨.other,1,false,8,some [.nilFunc]⟩),
 (281,⟨.array 256 4 1 false,256,true,256,some (List.replicate 256 (.bool false))⟩),
 (282,⟨.other,1,false,8,some [.nilFunc]⟩),
 (283,⟨.other,1,false,8,some [.nilFunc]⟩),
 (285,⟨.ptr 291,1,false,8,some [.pointer none]⟩),
 (286,⟨.int .u32,1,false,4,some [.int .u32 0]⟩),
 (287,⟨.array 8 286 1 false,8,true,32,some (List.replicate 8 (.int .u32 0))⟩),
 (288,⟨.array 24 158 7 true,168,true,384,some zub⟩),
 (289,⟨.array 24 286 1 false,24,true,96,some (List.replicate 24 (.int .u32 0))⟩),
 (291,⟨.struct [(0,1,false),(1,8,true),(9,8,true),(17,1,false),(18,1,false),(19,168,true),(187,24,true),(211,24,true),(235,24,true)],259,true,736,some zmm⟩),
 (293,⟨.other,1,false,8,some [.nilFunc]⟩),
 (297,⟨.other,1,false,0,none⟩),
 (299,⟨.array 64 5 1 false,64,true,64,some (List.replicate 64 (.int .u8 0))⟩),
 (300,⟨.array 3 5 1 false,3,true,3,some [.int .u8 0,.int .u8 0,.int .u8 0]⟩),
 (306,⟨.slice 311 3,1,false,24,some [.slice none 0 0]⟩),
 (307,⟨.other,1,false,0,none⟩),
 (309,⟨.int .u8,1,false,1,some [.int .u8 0]⟩),
 (311,⟨.struct [(0,1,false),(1,1,false),(2,1,false)],3,true,32,some [.int .u8 0,.string ByteArray.empty,.int .i64 0]⟩),
 (314,⟨.struct [(0,10,true),(10,1,false),(11,1,false)],12,true,32,some [.int .u8 0,.int .u8 0,.int .u8 0,.bool false,.int .u8 0,.bool false,.int .u8 0,.int .u8 0,.int .u8 0,.int .u8 0,.int .i64 0,.int .i64 0]⟩),
 (315,⟨.slice 41 1,1,false,24,some [.slice none 0 0]⟩),
 (318,⟨.ptr 101,1,false,8,some [.pointer none]⟩),
 (321,⟨.other,1,false,8,some [.nilFunc]⟩),
 (324,⟨.slice 286 1,1,false,24,some [.slice none 0 0]⟩),
 (326,⟨.array 2 5 1 false,2,true,2,some [.int .u8 0,.int .u8 0]⟩),
 (332,⟨.struct [(0,1,false),(1,1,false)],2,true,24,some [.string ByteArray.empty,.int .i64 0]⟩),
 (334,⟨.struct [(0,2,true),(2,1,false)],3,true,32,some [.string ByteArray.empty,.int .i64 0,.bool false]⟩),
 (335,⟨.other,1,false,8,some [.nilFunc]⟩),
 (336,⟨.other,1,false,8,some [.nilFunc]⟩),
 (340,⟨.ptr 314,1,false,8,some [.pointer none]⟩),
 (344,⟨.int .i64,1,false,8,some [.int .i64 0]⟩),
 (345,⟨.other,1,false,0,none⟩),
 (354,⟨.ptr 334,1,false,8,some [.pointer none]⟩),
 (355,⟨.other,1,false,8,some [.nilFunc]⟩),
 (356,⟨.other,1,false,0,none⟩),
 (359,⟨.array 9 5 1 false,9,true,9,some (List.replicate 9 (.int .u8 0))⟩),
 (366,⟨.other,1,false,8,some [.nilFunc]⟩),
 (367,⟨.array 9 366 1 false,9,true,72,some (List.replicate 9 (.nilFunc))⟩),
 (369,⟨.array 32 5 1 false,32,true,32,some (List.replicate 32 (.int .u8 0))⟩),
 (371,⟨.other,1,false,0,none⟩),
 (376,⟨.ptr 332,1,false,8,some [.pointer none]⟩),
 (377,⟨.other,1,false,8,some [.nilFunc]⟩),
 (380,⟨.other,1,false,0,none⟩)]
theorem tk {P:Program} {t:Nat} {i:TI} (h1:(P.info? t).map (fun x=>(x.size,x.bytes))=some (i.size,i.bytes):=by kernel_rfl)
  (h2:∀ z,i.zero=some z->((P.info? t).bind (fun x=>x.zero)).map (fun v=>v.cells.toList)=some z:=by intro z h;cases h;first | done | kernel_rfl) (h3:zp8 P t i=true:=by kernel_rfl):TIok P t i:=zvs h1 h2 h3
theorem jl:TTok PG tt :=
 .cons tk (
 .cons tk (
 .cons tk (
 .cons tk (
 .cons tk (
 .cons tk (
 .cons tk (
 .cons tk (
 .cons tk (
 .cons tk (
 .cons tk (
 .cons tk (
 .cons tk (
 .cons tk (
 .cons tk (
 .cons tk (
 .cons tk (
 .cons tk (
 .cons tk (
 .cons tk (
 .cons tk (
 .cons tk (
 .cons tk (
 .cons tk (
 .cons tk (
 .cons tk (
 .cons tk (
 .cons tk (
 .cons tk (
 .cons tk (
 .cons tk (
 .cons tk (
 .cons tk (
 .cons tk (
 .cons tk (
 .cons tk (
 .cons tk (
 .cons tk (
 .cons tk (
 .cons tk (
 .cons tk (
 .cons tk (
 .cons tk (
 .cons tk (
 .cons tk (
 .cons tk (
 .cons tk (
 .cons tk (
 .cons tk (
 .cons tk (
 .cons tk (
 .cons tk (
 .cons tk (
 .cons tk (
 .cons tk (
 .cons tk (
 .cons tk (
 .cons tk (
 .cons tk (
 .cons tk (
 .cons tk (
 .cons tk (
 .cons tk (
 .cons tk (
 .cons tk (
 .cons tk (
 .cons tk (
 .cons tk (
 .cons tk (
 .cons tk (
 .cons tk (
 .cons tk (
 .cons tk (
 .cons tk (
 .cons tk (
 .cons tk (
 .cons tk (
 .cons tk (
 .cons tk (
 .cons tk (
 .cons tk (
 .cons tk (
 .cons tk (
 .cons tk (
 .cons tk (
 .cons tk (
 .cons tk (
 .cons tk (
 .cons tk (
 .cons tk (
 .cons tk (
 .cons tk (
 .cons tk (
 .cons tk (
 .cons tk (
 .cons tk (
 .cons tk (
 .cons tk (
 .cons tk (
 .cons tk (
 .cons tk (
 .cons tk (
 .cons tk (
 .cons tk (
 .cons tk (
 .cons tk (
 .cons tk (
 .cons tk (
 .cons tk (
 .cons tk (
 .cons tk (
 .cons tk (
 .cons tk (
 .cons tk (
 .cons tk (
 .cons tk (
 .cons tk (
 .cons tk (
 .cons tk (
 .cons tk (
 .cons tk (
 .cons tk (
 .cons tk (
 .cons tk (
 .cons tk (
 .cons tk (
 .cons tk (
 .cons tk (
 .cons tk (
 .cons tk (
 .cons tk (
 .cons tk (
 .cons tk (
 .cons tk (
 .cons tk (
 .cons tk (
 .cons tk (
 .cons tk (
 .cons tk (
 .nil)))))))))))))))))))))))))))))))))))))))))))))))))))))))))))))))))))))))))))))))))))))))))))))))))))))))))))))))))))))))))))))))))))))))))))
theorem ztQ:zqi PG 3 330 [171,172,174,217,235,301,302,303,304,305,306,307,308,309,310,311,312,313,314,315,316,317,318,319,320,321,322,323,324,325,326,327,328]=true:=by kernel_rfl
theorem mixed:Tryz.prog.follows .mixedOrders=true:=by kernel_rfl
@[reducible] noncomputable def sg (n:Nat):Sig:=⟨PG,tt,n,3,330,none,[171,172,174,217,235,301,302,303,304,305,306,307,308,309,310,311,312,313,314,315,316,317,318,319,320,321,322,323,324,325,326,327,328]⟩
theorem zbi (n:Nat):SigOk (sg n):=⟨fun t i h=>jl.get t i h,ztR ztQ,mixed⟩
abbrev k0:=jl.get 0 _ rfl
abbrev k3:=jl.get 3 _ rfl
abbrev k4:=jl.get 4 _ rfl
abbrev k5:=jl.get 5 _ rfl
abbrev k9:=jl.get 9 _ rfl
abbrev k24:=jl.get 24 _ rfl
abbrev k25:=jl.get 25 _ rfl
abbrev k27:=jl.get 27 _ rfl
abbrev k30:=jl.get 30 _ rfl
abbrev k31:=jl.get 31 _ rfl
abbrev k37:=jl.get 37 _ rfl
abbrev k42:=jl.get 42 _ rfl
abbrev k45:=jl.get 45 _ rfl
abbrev k47:=jl.get 47 _ rfl
abbrev k49:=jl.get 49 _ rfl
abbrev k72:=jl.get 72 _ rfl
abbrev k89:=jl.get 89 _ rfl
abbrev k94:=jl.get 94 _ rfl
abbrev k96:=jl.get 96 _ rfl
abbrev zpF:=jl.get 128 _ rfl
abbrev ztl:=jl.get 134 _ rfl
abbrev zd3:=jl.get 158 _ rfl
abbrev zu3:=jl.get 166 _ rfl
abbrev zn1:=jl.get 170 _ rfl
abbrev zpE:=jl.get 172 _ rfl
abbrev zn0:=jl.get 228 _ rfl
abbrev zvS:=jl.get 232 _ rfl
abbrev zrr:=jl.get 233 _ rfl
abbrev znZ:=jl.get 241 _ rfl
abbrev zvR:=jl.get 245 _ rfl
abbrev zvQ:=jl.get 276 _ rfl
abbrev ztk:=jl.get 286 _ rfl
abbrev k291:=jl.get 291 _ rfl
abbrev zrq:=jl.get 306 _ rfl
abbrev zkt:=jl.get 311 _ rfl
abbrev zvP:=jl.get 314 _ rfl
abbrev zu2:=jl.get 326 _ rfl
abbrev zvO:=jl.get 334 _ rfl
abbrev zvN:=jl.get 367 _ rfl
abbrev CB (f:FuncId) (args:Array Value) (w:Wd) (v:Value):Prop:=Calls PG f args w fun e w'=>e = .returned v/\Below w.heap.size w w'
theorem z6 (n:Nat) (args:List Value) (m:Mk) {f:FuncId} {fn:Func} {c:Code} {w:Wd} {R:Ending->Wd->Prop} (hf:Tryz.prog.funcs[f]?=some fn) (h:wpM (sg n) m c ⟨zcU 0 args,[]⟩ w (zj5 (sg n) fn R)) (hb:fn.body=some c:=by rfl) (hn:fn.ntmps=n:=by rfl) (hle:args.length<=n:=by exact JS rfl):Calls PG f args.toArray w R:=zhw (S:=sg n) (zbi _) m hf hb hn hle rfl h
theorem zD (n:Nat) (args:List Value) {f:FuncId} {fn:Func} {c:Code} {w:Wd} {R:Ending->Wd->Prop} (hf:Tryz.prog.funcs[f]?=some fn) (h:wpE (sg n) c ⟨zcU 0 args,[]⟩ w (zj5 (sg n) fn R)) (hb:fn.body=some c:=by rfl) (hn:fn.ntmps=n:=by rfl) (hle:args.length<=n:=by exact JS rfl):Calls PG f args.toArray w R:=qM (S:=sg n) (zbi _) hf hb hn hle rfl h
end Go.Proofs.YtnadlhpkpnfmbaaGreatDoor
namespace Go.Sei
open Go.Vc
structure Msg where
 kind:UInt8
 from_:UInt8
 to:UInt8
 line:UInt8
 asker:UInt8
 acks:UInt8
 alone:Bool
 d0:UInt8
 d1:UInt8
 d2:UInt8
 d3:UInt8
 deriving DecidableEq
def Msg.enc (m:Msg):List Value:=[u8 m.kind,u8 m.from_,u8 m.to,u8 m.line,u8 m.asker,u8 m.acks,.bool m.alone,u8 m.d0,u8 m.d1,u8 m.d2,u8 m.d3]
def Msg.val (m:Msg):Value := .agg m.enc.toArray
def zru:Enc Int:=⟨fun n=>[.int .i64 n],1,fun _=>rfl,by decide,fun a u hu=>by
 simp only [UF,Qw,Gs] at hu;subst hu;rfl⟩
end Go.Sei
namespace Go.Proofs.YtnadlhpkpnfmbaaGreatDoor
open Go.Vc Go.RowKit Go.Sei
def i64 (n:Int):Value := .int .i64 n
theorem za5 {off sz:Nat} {cs:List Value} {v:Value} {K:Value->Prop} (h:cs[off]?=some v) (k:K v):zid off sz false cs K:=by
 unfold zid;rw [h];exact k
end Go.Proofs.YtnadlhpkpnfmbaaGreatDoor
namespace Go.Vc
open Go.RowKit
structure MapK (P:Program) (K:TypeId) {κ:Type} [DecidableEq κ] (key:κ->Value):Prop where
 check:∀ q e w,(Instr.checkKey e 10000 K (key q)).run P w = .ok () w
 eq:∀ q q' w,(Op.equal K (key q) (key q')).run P w = .ok (decide (q=q')) w
 same:∀ q,Instr.sameBits 10000 (key q) (key q)=true
 desc:∃ d,P.underlying K=some d/\∀ q q',Instr.sameNow d (key q) (key q')=none\/Instr.sameNow d (key q) (key q')=some (decide (q=q'))
section
variable {P:Program} {K:TypeId} {κ:Type} [DecidableEq κ] {key:κ->Value}
abbrev Ent (κ:Type):=κ×Value×Nat
def entry (key:κ->Value) (e:Ent κ):MapEntry:=⟨key e.1,e.2.1,e.2.2⟩
def zbb (q:κ):List (Ent κ)->Nat->Option (Nat×Value)
 | [],_=>none
 | e::r,i=>if q=e.1 then some (i,e.2.1) else zbb q r (i+1)
theorem zdk (hK:MapK P K key) (q:κ):∀ (es:List (Ent κ)) (i:Nat) (w:Wd),(Instr.findAsking K (key q) (es.map (entry key)) i).run P w = .ok (zbb q es i) w
 | [],_,_=>rfl
 | e::r,i,w=>by
  simp only [UE,Instr.findAsking,UY,entry,hK.eq q e.1 w,Qa,zbb];by_cases h:q=e.1
  ·simp [h]
  ·simp only [h,Ga,Kt,Gr];exact zdk hK q r (i+1) w
theorem zhj {d:TypeDesc} {q:κ} (h:∀ q',Instr.sameNow d (key q) (key q')=none\/Instr.sameNow d (key q) (key q')=some (decide (q=q'))):∀ (es:List (Ent κ)) (i:Nat),
  Instr.findNow d (key q) (es.map (entry key)) i=none\/Instr.findNow d (key q) (es.map (entry key)) i=some (zbb q es i)
 | [],_ => .inr rfl
 | e::r,i=>by
  simp only [UE,Instr.findNow,entry,zbb];rcases h e.1 with h1 | h1
  ·rw [h1];exact .inl rfl
  ·rw [h1];by_cases hq:q=e.1
   ·simp [hq]
   ·simp only [hq,Ga,Gr];exact zhj h r (i+1)
theorem zfQ (hK:MapK P K key) (q:κ) (es:List (Ent κ)) (w:Wd):(Instr.findKey K (key q) (es.map (entry key))).run P w = .ok (zbb q es 0) w:=by
 obtain⟨d,hd,hs⟩:=hK.desc;simp only [Instr.findKey,UY,Uu hd,Qa];rcases zhj (hs q) es 0 with h | h
 ·rw [h];exact zdk hK q es 0 w
 ·rw [h];rfl
theorem zhk {q:κ}:∀ {es:List (Ent κ)} {i j:Nat} {v:Value},zbb q es i=some (j,v)->∃ b,i<=j/\es[j-i]?=some (q,v,b)
 | [],_,_,_,h=>by simp [zbb] at h
 | e::r,i,j,v,h=>by
  simp only [zbb] at h
  split at h
  ·rename_i hq;simp only [KZ,UJ] at h;obtain⟨rfl,rfl⟩:=h;exact⟨e.2.2,Gc _,by simp [hq]⟩
  ·obtain⟨b,h1,h2⟩:=zhk h;refine⟨b,by omega,?_⟩;have:j-i=(j-(i+1))+1:=by omega
   rw [this];simpa using h2
theorem zhl {q:κ}:∀ {es:List (Ent κ)} {i:Nat},zbb q es i=none->∀ e∈es,e.1≠q
 | [],_,_,e,he=>by simp at he
 | x::r,i,h,e,he=>by
  simp only [zbb] at h
  split at h
  ·cases h
  ·rename_i hq
   cases he with
   | head=>exact fun e=>hq e.symm
   | tail _ he=>exact zhl h e he
def asF (es:List (Ent κ)) (q:κ):Option Value:=(zbb q es 0).map (·.2)
theorem zsa (q:κ):asF ([]:List (Ent κ)) q=none:=rfl
theorem zdj (q:κ):∀ (es:List (Ent κ)) (i:Nat),(zbb q es i).map (·.2)=asF es q
 | [],_=>rfl
 | e::r,i=>by
  unfold asF;simp only [zbb]
  split
  ·rfl
  ·rw [zdj q r (i+1),zdj q r (0+1)]
theorem zdo (e:Ent κ) (r:List (Ent κ)) (q:κ):asF (e::r) q=if q=e.1 then some e.2.1 else asF r q:=by
 unfold asF;simp only [zbb]
 split
 ·rfl
 ·rw [zdj];rfl
theorem zhz (e:Ent κ) (q:κ):∀ (es:List (Ent κ)),asF (es++[e]) q=(asF es q).or (if q=e.1 then some e.2.1 else none)
 | []=>by rw [QW,zdo,zsa];simp
 | x::r=>by
  rw [Qm,zdo,zdo,zhz e q r]
  split <;> simp
def MapF (key:κ->Value) (w:Wd) (r:Nat) (f:κ->Option Value):Prop :=
 ∃ (es:List (Ent κ)) (clock:Nat),w.heap[r]?=some (.map (es.map (entry key)).toArray clock)/\(∀ q,asF es q=f q)/\(es.map (·.1)).Nodup/\(es.map (·.2.2)).Nodup/\(∀ e∈es,e.2.2<clock)
def MapS (key:κ->Value) (w:Wd) (r:Nat) (f:κ->Option Value) (q:κ) (born:Nat):Prop :=
 ∃ (es:List (Ent κ)) (clock:Nat),w.heap[r]?=some (.map (es.map (entry key)).toArray clock)/\(∀ q,asF es q=f q)/\(es.map (·.1)).Nodup/\(es.map (·.2.2)).Nodup/\(∀ e∈es,e.2.2<clock)/\∃ v,(q,v,born)∈es
theorem MapS.map {w:Wd} {r:Nat} {f:κ->Option Value} {q:κ} {born:Nat} (h:MapS key w r f q born):MapF key w r f:=by
 obtain⟨es,clock,h1,h2,h3,h4,h5,_⟩:=h;exact⟨es,clock,h1,h2,h3,h4,h5⟩
theorem MapF.below {w w2:Wd} {r:Nat} {f:κ->Option Value} (h:MapF key w r f) (hb:Bw w w2):MapF key w2 r f:=by
 obtain⟨es,clock,hh,qB⟩:=h;exact⟨es,clock,zb hb hh,qB⟩
theorem MapF.same {w w2:Wd} {r:Nat} {f:κ->Option Value} (h:MapF key w r f) (hb:w2.heap[r]?=w.heap[r]?):MapF key w2 r f:=by
 obtain⟨es,clock,hh,qB⟩:=h;exact⟨es,clock,hb.trans hh,qB⟩
theorem MapF.new {w:Wd}:MapF key (w.alloc (.map #[] 0)) w.heap.size (fun (_:κ)=>none) :=
 ⟨[],0,zA w _,fun _=>rfl,by simp,by simp,by simp⟩
theorem zgZ {T elem:TypeId} (hK:MapK P K key) (hu:P.underlying T=some (.map K elem)) {z:Value} (hz:∀ w,(zeroValue elem).run P w = .ok z w) {w:Wd} {r:Nat} {f:κ->Option Value} (h:MapF key w r f) (q:κ) (ok:Bool) :
  (Instr.lookup T (.map (some r)) (key q) ok).run P w = .ok (if ok then .tuple #[(f q).getD z,.bool (f q).isSome] else (f q).getD z) w:=by
 obtain⟨es,clock,hh,hf,_⟩:=h;have hg:(getObj r).run P w = .ok (.map (es.map (entry key)).toArray clock) w:=by simp [getObj,Sem.run,hh]
 have e:asF es q=f q:=hf q;unfold asF at e;simp only [Instr.lookup,UY,Uu hu,Qa,hg,UZ,hK.check q _ w,zfQ hK q es w]
 cases hfl:zbb q es 0 with
 | none =>
  rw [hfl] at e;simp only [Option.map_none] at e;simp only [UY,hz w,Qa,UZ,<- e,Option.getD_none,Option.isSome_none]
  first | done | (cases ok <;> rfl)
 | some p =>
  obtain⟨j,v⟩:=p;rw [hfl] at e;simp only [Uf] at e;simp only [<- e,QE,Option.isSome_some]
  cases ok <;> rfl
theorem za9 {w:Wd} {r:Nat} {o o':Obj} (h:w.heap[r]?=some o):(w.putObj r o').heap[r]?=some o':=by
 have:r<w.heap.size:=hlt h;simp [World.putObj,this]
theorem zj {w:Wd} {r k:Nat} {o:Obj} (h:k≠r):(w.putObj r o).heap[k]?=w.heap[k]?:=by
 have:¬ r=k:=fun e=>h e.symm;simp [World.putObj,this]
theorem qX {B:Nat} {a w:Wd} (h:Below B a w) {r:Nat} (hr:B<=r) (o:Obj):Below B a (w.putObj r o) :=
 h.trans ⟨rfl,rfl,rfl,by simp [World.putObj],fun k hk=>zj (by omega)⟩
theorem zdz (w:Wd) (r:Nat) (o:Obj):w.grownBy (w.putObj r o) (some r) :=
 ⟨rfl,rfl,rfl,by simp [World.putObj],fun k _ hne=>zj (fun e=>hne (by rw [e]))⟩
theorem zna {born:Nat} (x:Value) (q:κ) (q':κ):∀ (es:List (Ent κ)),(es.map (·.1)).Nodup->(∃ v,(q,v,born)∈es)->(∀ e∈es,e.2.2=born->e.1=q) ->
  asF (es.map fun e=>if e.2.2=born then (e.1,x,e.2.2) else e) q'=if q'=q then some x else asF es q'
 | [],_,⟨v,h⟩,_=>by simp at h
 | e::r,hn,⟨v,hm⟩,hb=>by
  rw [UE,QX] at hn;rw [UE,zdo,zdo];by_cases he:e.2.2=born
  ·have hq:e.1=q:=hb e Kz he;simp only [he,Gu];rw [hq];by_cases hqq:q'=q
   ·simp [hqq]
   ·simp only [hqq,Gr];have hrest:∀ (l:List (Ent κ)),(∀ e∈l,e.2.2=born->e.1=q)->q ∉ l.map (·.1)->l.map (fun e=>if e.2.2=born then (e.1,x,e.2.2) else e)=l:=by
     intro l
     induction l with
     | nil=>intros;rfl
     | cons y l ih =>
      intro h1 h2;have hy:¬ y.2.2=born:=fun hy=>h2 (UO.2 ⟨y,Kz,h1 y Kz hy⟩);rw [UE,Gw hy,ih (fun z hz=>h1 z (JW _ hz)) (fun hz=>h2 (by rw [UE];exact JW _ hz))]
    rw [hrest r (fun z hz=>hb z (JW _ hz)) (by rw [<- hq];exact hn.1)]
  ·have hm':(q,v,born)∈r:=by
    cases hm with
    | head=>exact Gy rfl he
    | tail _ h=>exact h
   simp only [he,Gr];have hqe:q≠e.1:=fun hq=>hn.1 (UO.2 ⟨_,hm',hq⟩);rw [zna x q q' r hn.2 ⟨v,hm'⟩ (fun z hz=>hb z (JW _ hz))];by_cases hqq:q'=q
   ·subst hqq;simp [hqe]
   ·simp [hqq]
end
structure Step (n0 : Nat) (Fp : Wd → Nat → Prop) (A B : Wd) : Prop where
  os : B.os = A.os
  tape : B.tape = A.tape
  output : B.output = A.output
  size : A.heap.size ≤ B.heap.size
  same : ∀ k, k < A.heap.size → (k < n0 ∨ Fp A k) → B.heap[k]? = A.heap[k]?
structure Keeps (Fp : Wd → Nat → Prop) (A B : Wd) : Prop where
  os : B.os = A.os
  tape : B.tape = A.tape
  output : B.output = A.output
  size : A.heap.size ≤ B.heap.size
  same : ∀ k, k < A.heap.size → ¬ Fp A k → B.heap[k]? = A.heap[k]?
  fp : ∀ k, Fp B k → Fp A k ∨ A.heap.size ≤ k
structure IterJ {σ : Type} (n0 : Nat) (Fp : Wd → Nat → Prop) (J : σ → Wd → Prop) : Prop where
  step : ∀ s A B, J s A → Step n0 Fp A B → J s B ∧ ∀ k, Fp B k → Fp A k
  lt : ∀ s A k, J s A → Fp A k → k < A.heap.size
theorem Step.mono {n0 n1 : Nat} {Fp : Wd → Nat → Prop} {A B : Wd} (h : Step n0 Fp A B) (hn : n1 ≤ n0) : Step n1 Fp A B :=
  ⟨h.os, h.tape, h.output, h.size, fun k hk hf => h.same k hk (hf.imp (fun h => KF h hn) id)⟩
theorem IterJ.mono {σ : Type} {n0 n1 : Nat} {Fp : Wd → Nat → Prop} {J : σ → Wd → Prop} (h : IterJ n0 Fp J) (hn : n0 ≤ n1) : IterJ n1 Fp J :=
  ⟨fun s A B hj hs => h.step s A B hj (hs.mono hn), h.lt⟩
theorem Step.of_below {n0 : Nat} {Fp : Wd → Nat → Prop} {A B : Wd} (h : Below A.heap.size A B) : Step n0 Fp A B :=
  ⟨h.os, h.tape, h.output, h.size, fun k hk _ => h.block k hk⟩
theorem Step.alloc {n0 : Nat} {Fp : Wd → Nat → Prop} (A : Wd) (o : Obj) : Step n0 Fp A (A.alloc o) := .of_below ((Gh _ A).alloc (Gc _) o)
theorem Step.drew {n0 : Nat} {Fp : Wd → Nat → Prop} (A : Wd) : Step n0 Fp A A.drew := .of_below (Gh _ A).drew
theorem Step.put {n0 : Nat} {Fp : Wd → Nat → Prop} {A : Wd} {l : Nat} (h : n0 ≤ l) (hf : ¬ Fp A l) (o : Obj) : Step n0 Fp A (A.putObj l o) :=
  ⟨rfl, rfl, rfl, by simp [World.putObj], fun k _ hk => zj (fun e => by subst e; rcases hk with hk | hk; omega; exact hf hk)⟩
theorem Step.row {n0 : Nat} {Fp : Wd → Nat → Prop} {A : Wd} {l : Nat} (h : n0 ≤ l) (hf : ¬ Fp A l) (cs : Array Value) : Step n0 Fp A (A.setRow l cs) :=
  ⟨rfl, rfl, rfl, by simp, fun k _ hk => zt (fun e => by subst e; rcases hk with hk | hk; omega; exact hf hk)⟩
theorem YieldR.mono {P : Program} {l : Nat} {args : Array Value} {w : Wd} {K K' : Value → Wd → Prop} (h : YieldR P l args w K) (hk : ∀ v w, K v w → K' v w) : YieldR P l args w K' := by
  obtain ⟨fn, tmps, assign, body, hy, hR⟩ := h
  exact ⟨fn, tmps, assign, body, hy, hR.mono fun e w' he => by cases e <;> first | exact hk _ _ he | exact he⟩
def setL : List Nat → List Value → VEnv → VEnv
  | p :: ps, v :: vs, E => setL ps vs ((p, v) :: E)
  | _, _, E => E
theorem zbM {S : Sig} : ∀ (ps : List Nat) (vs : List Value) (a : Act) (E : Env), Agrees S a E → (∀ p ∈ ps, p < S.n) →
    Agrees S { a with tmps := (ps.zip vs).foldl (fun t (p, v) => t.setIfInBounds p v) a.tmps } ⟨setL ps vs E.vs, E.ds⟩
  | [], vs, a, E, h, _ => by simpa [setL] using h
  | p :: ps, [], a, E, h, _ => by simpa [setL] using h
  | p :: ps, v :: vs, a, E, h, hp => by
    have h1 := h.put (dst := some p) (by simpa [zmK] using hp p Kz) v
    have h2 := zbM ps vs (a.put (some p) v) (zcW (some p) v E) h1 (fun q hq => hp q (JW _ hq))
    simpa [setL, zcW, Act.put] using h2
def sr (S : Sig) (l : Nat) : Sig := { S with r := some l }
theorem zh1 {S : Sig} (h : SigOk S) (l : Nat) : SigOk (sr S l) := ⟨h.ty, h.call, h.mixed⟩
def zva {α : Type} (Fp : Wd → Nat → Prop) (J : List α → Wd → Prop) (Jx : Exit → List α → Wd → Prop) (xs : List α) (A : Wd) : Exit → Env → Wd → Prop
  | .normal, _, B => J xs B ∧ Keeps Fp A B
  | .ret, _, B => Jx .ret xs B ∧ Keeps Fp A B
  | .exit id, _, B => Jx (.exit id) xs B ∧ Keeps Fp A B
  | _, _, _ => False
theorem Keeps.trans {Fp : Wd → Nat → Prop} {A B C : Wd} (h : Keeps Fp A B) (k : Keeps Fp B C) : Keeps Fp A C :=
  ⟨k.os.trans h.os, k.tape.trans h.tape, k.output.trans h.output, UT h.size k.size,
   fun i hi hf => (k.same i (KF hi h.size) (fun hb => by rcases h.fp i hb with h1 | h1; exact hf h1; omega)).trans (h.same i hi hf),
   fun i hi => by
     rcases k.fp i hi with h1 | h1
     · exact h.fp i h1
     · exact .inr (UT h.size h1)⟩
theorem Keeps.refl (Fp : Wd → Nat → Prop) (A : Wd) : Keeps Fp A A := ⟨rfl, rfl, rfl, Gc _, fun _ _ _ => rfl, fun _ h => .inl h⟩
theorem Keeps.of_below {Fp : Wd → Nat → Prop} {A B : Wd} (h : Below A.heap.size A B) (hf : ∀ k, Fp B k → Fp A k ∨ A.heap.size ≤ k) : Keeps Fp A B :=
  ⟨h.os, h.tape, h.output, h.size, fun k hk _ => h.block k hk, hf⟩
theorem zk {P : Program} {X : Wd} {T : TypeId} {iT : TI} (hT : TIok P T iT) {cs : Array Value} {t : TypeId} {v : Value} (hv : v.cells.size = iT.size) (hc : cs.size = iT.size)
    (h0 : v.cells.toList.all Value.oneCell' = true) {K : Wd → Prop}
    (k : ∀ Y, Below X.heap.size X Y → Y.heap[X.heap.size]? = some (.cells v.cells t (0, 0)) → Y.heap.size = X.heap.size + 1 → K Y) :
    SatR ((storeVar T ⟨X.heap.size, 0, none⟩ v).run P (X.alloc (.cells cs t))) fun _ w' => K w' :=
  zy hT (zA X _) hv hc h0 (k _ (zl ((Gh _ X).alloc (Gc _) _) (Gc _) _) (zq (zA X _)) (by simp))
end Go.Vc
