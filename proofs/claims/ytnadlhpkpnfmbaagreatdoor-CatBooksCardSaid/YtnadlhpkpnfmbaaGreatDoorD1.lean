/- Contracts of functions, and plain facts, for the law that the last text of this claim proves. -/
import Derived.Below
import Derived.KernelRfl
import Derived.CallsIn
import Derived.OrdersIn
import Derived.RangeFuncLeaves
import Derived.Laws.StructEq
import Derived.Laws.Rows
import Derived.RangeFuncSeq
import Derived.Deep.LoopGhost
import Derived.Laws.AppendOwn
import Derived.Maps.AppendAt
import Derived.Laws.AppendOwnNone
import Derived.Test.YtnadlhpkpnfmbaaGreatDoorProg
set_option linter.unusedSimpArgs false
set_option linter.unusedVariables false
namespace Go
abbrev Ja:=@Nat.exists_ge_and_testBit_of_ge_two_pow
abbrev Jb:=@List.set_eq_take_append_cons_drop
abbrev Jc:=@Array.all_eq_true_iff_forall_mem
abbrev Jd:=@List.take_succ_eq_append_getElem
abbrev Je:=@List.eq_nil_iff_forall_not_mem
abbrev Jf:=@List.eq_nil_of_length_eq_zero
abbrev Jg:=@List.take_append_of_le_length
abbrev Jh:=@Array.getElem?_setIfInBounds
abbrev Ji:=@Array.getD_eq_getD_getElem?
abbrev Jj:=@List.drop_length_add_append
abbrev Jk:=@Array.getElem?_eq_some_iff
abbrev Jl:=@List.getElem?_append_right
abbrev Jm:=@Array.getElem?_eq_getElem
abbrev Jn:=@Classical.byContradiction
abbrev Jo:=@List.drop_eq_getElem_cons
abbrev Jp:=@List.getElem?_append_left
abbrev Jq:=@List.getElem?_eq_some_iff
abbrev Jr:=@List.isEmpty_eq_false_iff
abbrev Js:=@List.eq_of_mem_replicate
abbrev Jt:=@List.getElem?_eq_getElem
abbrev Ju:=@List.getElem?_cons_succ
abbrev Jv:=@List.head_eq_of_cons_eq
abbrev Jw:=@Nat.add_sub_cancel_left
abbrev Jy:=@Go.World.block_lt_of_cell?
abbrev Jz:=@List.drop_eq_nil_of_le
abbrev JA:=@List.drop_of_length_le
abbrev JB:=@List.filter_eq_nil_iff
abbrev JC:=@List.getElem?_set_self
abbrev JD:=@List.getElem_cons_drop
abbrev JE:=@List.take_of_length_le
abbrev JF:=@Nat.testBit_lt_two_pow
abbrev JH:=@Array.getElem?_append
abbrev JI:=@Array.mem_of_getElem?
abbrev JJ:=@List.getElem?_eq_none
abbrev JK:=@List.getElem?_reverse
abbrev JL:=@List.length_filter_le
abbrev JM:=@List.length_replicate
abbrev JO:=@List.mem_append_right
abbrev JP:=@List.set_append_right
abbrev JQ:=@List.take_append_drop
abbrev JR:=@Nat.eq_of_beq_eq_true
abbrev JS:=@Nat.le_of_ble_eq_true
abbrev JT:=@Array.toList_extract
abbrev JU:=@List.contains_eq_mem
abbrev JV:=@List.getElem?_set_ne
abbrev JW:=@List.mem_cons_of_mem
abbrev JY:=@List.mem_of_getElem?
abbrev JZ:=@List.mem_of_mem_take
abbrev Ka:=@Nat.eq_of_testBit_eq
abbrev Kb:=@Nat.pow_le_pow_right
abbrev Kc:=@Nat.pow_lt_pow_right
abbrev Kd:=@Go.ByteArray.toList_eq
abbrev Ke:=@Function.comp_apply
abbrev Kf:=@List.flatMap_append
abbrev Kg:=@List.getElem?_range
abbrev Kh:=@List.getElem_of_mem
abbrev Ki:=@List.length_reverse
abbrev Kj:=@List.map_congr_left
abbrev Kk:=@List.mem_map_of_mem
abbrev Kl:=@List.reverse_append
abbrev Km:=@List.takeWhile_cons
abbrev Kn:=@Nat.testBit_two_pow
abbrev Ko:=@Go.callsIn_of_wp_marks
abbrev Kq:=@Go.run_enterLoop_outer
abbrev Kr:=@Array.foldl_toList
abbrev Ks:=@BitVec.toNat_ofInt
abbrev Kt:=@Bool.false_eq_true
abbrev Ku:=@Bool.false_ne_true
abbrev Kv:=@List.filter_append
abbrev Kw:=@List.getElem?_drop
abbrev Kx:=@List.getElem?_take
abbrev Ky:=@List.getElem_range
abbrev Kz:=@List.mem_cons_self
abbrev KA:=@List.mem_singleton
abbrev KB:=@List.ne_nil_of_mem
abbrev KC:=@List.set_cons_succ
abbrev KD:=@Nat.and_one_is_mod
abbrev KE:=@Nat.lt_of_le_of_lt
abbrev KF:=@Nat.lt_of_lt_of_le
abbrev KG:=@Nat.pos_of_ne_zero
abbrev KH:=@UInt8.toNat_ofNat'
abbrev KI:=@of_decide_eq_false
abbrev KJ:=@Bool.not_eq_true'
abbrev KK:=@Go.DataW.trod_struct
abbrev KL:=@Int.toNat_natCast
abbrev KM:=@List.all_eq_false
abbrev KN:=@List.any_eq_false
abbrev KO:=@List.append_assoc
abbrev KQ:=@List.ext_getElem?
abbrev KR:=@List.filter_congr
abbrev KS:=@List.flatMap_cons
abbrev KT:=@List.foldl_append
abbrev KU:=@List.getElem?_map
abbrev KV:=@List.length_range
abbrev KW:=@List.reverse_cons
abbrev KX:=@List.size_toArray
abbrev KY:=@Nat.or_lt_two_pow
abbrev KZ:=@Option.some.injEq
abbrev Qa:=@Result.andThen_ok
abbrev Qb:=@not_true_eq_false
abbrev Qc:=@of_decide_eq_true
abbrev Qd:=@Go.run_storeCells_at
abbrev Qe:=@Array.toList_inj
abbrev Qf:=@Array.toList_map
abbrev Qg:=@BitVec.toNat_and
abbrev Qh:=@Bool.and_eq_true
abbrev Qi:=@Bool.not_eq_true
abbrev Qj:=@List.all_eq_true
abbrev Qk:=@List.any_eq_true
abbrev Ql:=@List.cons_append
abbrev Qm:=@List.drop_length
abbrev Qn:=@List.filter_cons
abbrev Qo:=@List.flatMap_map
abbrev Qp:=@List.flatMap_nil
abbrev Qq:=@List.getElem_map
abbrev Qr:=@List.isEmpty_iff
abbrev Qs:=@List.length_cons
abbrev Qt:=@List.length_drop
abbrev Qu:=@List.length_take
abbrev Qv:=@List.not_mem_nil
abbrev Qw:=@List.take_length
abbrev Qx:=@Nat.and_le_right
abbrev Qy:=@Nat.le_add_right
abbrev Qz:=@Nat.lt_of_not_le
abbrev QA:=@Nat.lt_succ_self
abbrev QB:=@Nat.min_le_right
abbrev QC:=@Nat.mod_eq_of_lt
abbrev QD:=@Nat.zero_testBit
abbrev QE:=@Option.getD_some
abbrev QF:=@Go.World.ownsRow.lt
abbrev QG:=@Go.World.size_alloc
abbrev QH:=@decide_eq_decide
abbrev QI:=@Bool.or_eq_true
abbrev QJ:=@Go.DataW.lit.injEq
abbrev QK:=@Int.natCast_mul
abbrev QL:=@List.all_append
abbrev QM:=@List.append_nil
abbrev QN:=@List.cons.injEq
abbrev QO:=@List.foldl_cons
abbrev QQ:=@List.length_map
abbrev QR:=@List.length_nil
abbrev QS:=@List.length_set
abbrev QT:=@List.map_append
abbrev QU:=@List.mem_append
abbrev QV:=@List.mem_filter
abbrev QW:=@List.nil_append
abbrev QX:=@List.nodup_cons
abbrev QY:=@List.range_succ
abbrev QZ:=@List.take_left'
abbrev Ua:=@Nat.and_le_left
abbrev Ub:=@Nat.div_add_mod
abbrev Uc:=@Nat.min_eq_left
abbrev Ud:=@Nat.testBit_and
abbrev Ue:=@Nat.two_pow_pos
abbrev Uf:=@Option.map_some
abbrev Ug:=@Option.some.inj
abbrev Uh:=@UInt8.toNat_inj
abbrev Ui:=@Go.World.var?_cell
abbrev Uj:=@decide_eq_false
abbrev Uk:=@Bool.and_false
abbrev Ul:=@Bool.false_and
abbrev Um:=@Go.DataW.trod_int
abbrev Un:=@List.drop_drop
abbrev Uo:=@List.drop_left
abbrev Up:=@List.drop_zero
abbrev Uq:=@List.mapM_cons
abbrev Ur:=@List.mem_range
abbrev Us:=@List.take_zero
abbrev Ut:=@Nat.testBit_or
abbrev Uu:=@decide_eq_true
abbrev Uv:=@Go.run_underlying
abbrev Uw:=@Go.Addr.mk.injEq
abbrev Ux:=@Bool.false_or
abbrev Uy:=@Bool.not_true
abbrev Uz:=@Bool.or_false
abbrev UA:=@Bool.true_and
abbrev UB:=@Go.DataW.agg.inj
abbrev UC:=@Int.ofNat.inj
abbrev UD:=@List.all_cons
abbrev UE:=@List.any_cons
abbrev UF:=@List.map_cons
abbrev UG:=@List.mem_cons
abbrev UH:=@Go.Lit.int.injEq
abbrev UI:=@Nat.add_assoc
abbrev UJ:=@Nat.mul_assoc
abbrev UK:=@Prod.mk.injEq
abbrev UL:=@Bool.not_not
abbrev UM:=@List.map_map
abbrev UN:=@List.map_nil
abbrev UO:=@List.map_set
abbrev UP:=@List.mem_map
abbrev UQ:=@Nat.add_comm
abbrev UR:=@Nat.add_zero
abbrev US:=@Nat.beq_refl
abbrev UT:=@Nat.le_of_lt
abbrev UU:=@Nat.le_trans
abbrev UV:=@Nat.mul_comm
abbrev UW:=@Nat.sub_self
abbrev UX:=@Nat.sub_zero
abbrev UY:=@Nat.zero_add
abbrev UZ:=@Nat.zero_mul
abbrev Ga:=@Sem.run_bind
abbrev Gb:=@Sem.run_pure
abbrev Gc:=@decide_false
abbrev Gd:=@Nat.add_mul
abbrev Ge:=@Nat.le_refl
abbrev Gf:=@Nat.mul_one
abbrev Gg:=@Nat.zero_le
abbrev Gh:=@Prod.mk.inj
abbrev Gi:=@Go.run_endLoop
abbrev Gj:=@Go.RowKit.Below.refl
abbrev Gk:=@Go.Calls.mono
abbrev Gl:=@Nat.ble_eq
abbrev Gm:=@Nat.blt_eq
abbrev Gn:=@Nat.mod_lt
abbrev Gp:=@And.intro
abbrev Gq:=@Go.wpIn_mono
abbrev Gr:=@and_true
abbrev Gs:=@congrArg
abbrev Gt:=@if_false
abbrev Gu:=@or_false
abbrev Gw:=@true_and
abbrev Gx:=@if_true
abbrev Gy:=@if_neg
abbrev Gz:=@if_pos
abbrev GA:=@absurd
abbrev Wd:=World
abbrev OA:=Option Addr
noncomputable abbrev PG:=Go.Proofs.Tryz.prog
end Go
namespace Go.Proofs.YtnadlhpkpnfmbaaGreatDoor
abbrev Bs:=List UInt8
def zbk (c:UInt8):Bool:=decide (97<=c.toNat)&&decide (c.toNat<=122)
def jW (c:UInt8):Bool:=decide (65<=c.toNat)&&decide (c.toNat<=90)
def qO (c:UInt8):Bool:=zbk c||(decide (48<=c.toNat)&&decide (c.toNat<=57)||decide (c=45))
def jv (c:UInt8):Bool:=decide (c=32)||decide (c=9)
def zfk (c:UInt8):Bool:=decide (c≠10)
def zci (p:UInt8->Bool) (s:Bs) (at_:Nat):Bs:=(s.drop at_).takeWhile p
def jm (p:UInt8->Bool) (s:Bs) (at_:Nat):Nat:=at_+(zci p s at_).length
def qg:List Bs:=[[108,101,116],[97,99,121,99,108,105,99],[105,114,114,101,102,108,101,120,105,118,101],[101,109,112,116,121]]
def zbK (s:Bs):Nat:=qg.findIdx (fun w=>decide (w=s))
def zoz (s:Bs):Bool:=decide (s=[97,115])||decide (zbK s<4)
def zal (s:Bs):Bool:=[[112,111],[114,102],[99,111],[102,114],[114,109,119],[100,97,116,97],[99,116,114,108],[108,111,99],[105,100],[101,120,116],[105,110,116]].any fun w=>decide (w=s)
def zh6 (s:Bs):Bool:=[[82],[87],[70],[77],[65],[76],[88],[70,70],[70,76],[70,83],[73]].any fun w=>decide (w=s)
structure Tk where
 kind:Nat
 text:Bs
 at_:Nat
def zaF (k:Nat) (t:Bs) (at_:Nat):Tk:=if t.length > 16 then ⟨0,[],at_⟩ else ⟨k,t,at_⟩
def zj3:Bs:=[61,124,38,92,59,43,42,91,93,40,41]
def zcm (s:Bs) (at_:Nat):Nat :=
 if s[jm jv s at_]?=some 35 then jm zfk s (jm jv s at_) else jm jv s at_
def zaX (s:Bs) (a:Nat):Tk :=
 match s[a]? with
 | none=>⟨1,[],a⟩
 | some c =>
  if c=10 then ⟨2,[c],a⟩
  else if zbk c then (if zoz (zci qO s a) then ⟨3,zci qO s a,a⟩ else zaF 4 (zci qO s a) a)
  else if jW c then zaF 5 (zci jW s a) a
  else if c∈zj3 then ⟨6,[c],a⟩
  else if (s.drop a).take 3=[94,45,49] then ⟨6,[94,45,49],a⟩
  else ⟨0,[],a⟩
def zH (s:Bs) (at_:Nat):Tk:=zaX s (zcm s at_)
inductive Trm where
 | mk (kind:UInt8) (name:Bs) (kids:List Trm)
structure PS where
 tok:Tk
 lets:Bs->Bool
 checks:Bs->Bool
 nodes:Nat
 deep:Nat
 e:Int
section
variable (sc:Nat->Tk)
def zaM (st:PS):PS:={ st with tok:=sc (st.tok.at_+st.tok.text.length) }
def zaN (e:Int) (st:PS):PS:={ st with e:=e }
def isP (st:PS) (t:Bs):Bool:=decide (st.tok.kind=6)&&decide (st.tok.text=t)
def qj (k:Nat) (t:Bs) (st:PS):Bool×PS:=if st.tok.kind≠k\/st.tok.text≠t then (false,zaN 110 st) else (true,zaM sc st)
def zaB (st:PS):Bool×PS:=if st.nodes ≥ 400 then (false,zaN 5 st) else (true,zaM sc { st with nodes:=st.nodes+1 })
def jT (used:Bs->Bool) (st:PS):Option Bs×PS :=
 if st.tok.kind≠4 then (none,zaN 110 st) else if used st.tok.text then (none,zaN 111 st) else (some st.tok.text,zaM sc st)
def qt (st:PS):Nat:=if isP st [124] then 2 else if isP st [38] then 3 else if isP st [92] then 4 else if isP st [59] then 5 else 0
def zcu (st:PS):Nat:=if isP st [42] then 8 else if isP st [43] then 7 else if isP st [94,45,49] then 6 else 0
mutual
def termP:Nat->Nat->PS->Option Trm×PS
 | 0,_,st=>(none,st)
 | f+1,least,st=>match tightP f st with
  | (none,st)=>(none,st)
  | (some t,st)=>moreP f least t st
def moreP:Nat->Nat->Trm->PS->Option Trm×PS
 | 0,_,_,st=>(none,st)
 | f+1,least,t,st =>
  if qt st=0\/qt st-1<least then (some t,st) else
  match zaB sc st with
  | (false,st)=>(none,st)
  | (true,st2)=>match termP f (qt st) st2 with
   | (none,st3)=>(none,st3)
   | (some r,st3)=>moreP f least (.mk (UInt8.ofNat (qt st)) [] [t,r]) st3
def tightP:Nat->PS->Option Trm×PS
 | 0,st=>(none,st)
 | f+1,st=>match simpleP f st with
  | (none,st)=>(none,st)
  | (some t,st)=>postsP f t st
def postsP:Nat->Trm->PS->Option Trm×PS
 | 0,_,st=>(none,st)
 | f+1,t,st =>
  if zcu st=0 then (some t,st) else
  match zaB sc st with
  | (false,st2)=>(none,st2)
  | (true,st2)=>postsP f (.mk (UInt8.ofNat (zcu st)) [] [t]) st2
def simpleP:Nat->PS->Option Trm×PS
 | 0,st=>(none,st)
 | f+1,st =>
  if st.tok.kind=4 then
   if (!zal st.tok.text && !st.lets st.tok.text)=true then (none,zaN 112 st) else
   match zaB sc st with
   | (true,st2)=>(some (.mk 1 st.tok.text []),st2)
   | (false,st2)=>(none,st2)
  else if isP st [91] then
   match zaB sc st with
   | (false,st2)=>(none,st2)
   | (true,st2) =>
    if st2.tok.kind≠5 then (none,zaN 110 st2) else
    if zh6 st2.tok.text=false then (none,zaN 112 st2) else
    match qj sc 6 [93] (zaM sc st2) with
    | (true,st3)=>(some (.mk 9 st2.tok.text []),st3)
    | (false,st3)=>(none,st3)
  else if isP st [40]&&decide (st.deep<50) then
   match termP f 1 (zaM sc { st with deep:=st.deep+1 }) with
   | (none,st2)=>(none,{ st2 with deep:=st2.deep-1 })
   | (some t,st2)=>match qj sc 6 [41] { st2 with deep:=st2.deep-1 } with
    | (true,st3)=>(some t,st3)
    | (false,st3)=>(none,st3)
  else (none,zaN 110 st)
end
structure LineD where
 kind:Nat
 name:Bs
 term:Trm
def zoJ (l:LineD) (st:PS):Option LineD×PS:=if st.tok.kind≠2/\st.tok.kind≠1 then (none,zaN 110 st) else (some l,st)
def zdC (g:Bs->Bool) (s:Bs):Bs->Bool:=fun t=>decide (t=s)||g t
def zca (f many:Nat) (st:PS):Option LineD×PS :=
 if st.tok.kind≠3\/zbK st.tok.text ≥ 4 then (none,zaN 110 st)
 else if many ≥ 40 then (none,zaN 5 st)
 else if zbK st.tok.text=0 then
  match jT sc (fun s=>zal s||st.lets s) (zaM sc st) with
  | (none,st2)=>(none,st2)
  | (some nq,st2)=>match qj sc 6 [61] st2 with
   | (false,st3)=>(none,st3)
   | (true,st3)=>match termP sc f 1 st3 with
    | (none,st4)=>(none,{ st4 with lets:=zdC st4.lets nq })
    | (some t,st4)=>zoJ ⟨0,nq,t⟩ { st4 with lets:=zdC st4.lets nq }
 else
  match termP sc f 1 (zaM sc st) with
  | (none,st2)=>(none,st2)
  | (some t,st2)=>match qj sc 3 [97,115] st2 with
   | (false,st3)=>(none,st3)
   | (true,st3)=>match jT sc st3.checks st3 with
    | (none,st4)=>(none,{ st4 with checks:=zdC st4.checks [] })
    | (some nq,st4)=>zoJ ⟨zbK st.tok.text,nq,t⟩ { st4 with checks:=zdC st4.checks nq }
def zhv (f:Nat):Nat->List LineD->PS->Option (List LineD)×Nat×Int
 | 0,_,st=>(none,st.tok.at_,st.e)
 | n+1,l,st =>
  if st.tok.kind=1 then (some l,0,0)
  else if st.tok.kind=2 then zhv f n l (zaM sc st)
  else match zca sc f l.length st with
   | (none,st2)=>(none,st2.tok.at_,st2.e)
   | (some x,st2)=>zhv f n (l++[x]) st2
end
def zi3 (s:Bs):PS:=⟨zH s 0,fun _=>false,fun _=>false,0,0,0⟩
def qc (s:Bs):Option (List LineD)×Nat×Int :=
 if s.length > 8192 then (none,0,3) else zhv (zH s) 40000 10000 [] (zi3 s)
def jG (k:Nat):Int:=([-1,0,2,2,2,2,1,1,1,0]:List Int).getD k (-1)
def Trm.kind:Trm->UInt8 | .mk k _ _=>k
def Trm.name:Trm->Bs | .mk _ n _=>n
def Trm.kids:Trm->List Trm | .mk _ _ l=>l
section
variable (lets:Bs->Bool)
mutual
def chkT:Nat->Trm->Bool×Nat
 | n,.mk k nq kids =>
  if n+1 > 400\/k.toNat ≥ 10\/(kids.length:Int)≠jG k.toNat then (false,n+1)
  else if k=1 then (zal nq||lets nq,n+1)
  else if k=9 then (zh6 nq,n+1)
  else if nq≠[] then (false,n+1)
  else chkL (n+1) kids
def chkL:Nat->List Trm->Bool×Nat
 | n,[]=>(true,n)
 | n,t::r=>match chkT n t with
  | (false,n2)=>(false,n2)
  | (true,n2)=>chkL n2 r
end
end
def zcU (s:Bs):Bool:=decide (s≠[])&&(decide (s.length<=16)&&(zbk (s.getD 0 0)&&(decide (jm qO s 0=s.length) && !zoz s)))
def qC:(Bs->Bool)->(Bs->Bool)->Nat->List LineD->Bool×(Bs->Bool)
 | lets,_,_,[]=>(true,lets)
 | lets,checks,n,l::r =>
  if l.kind > 3\/zcU l.name=false then (false,lets)
  else match chkT lets n l.term with
   | (false,_)=>(false,lets)
   | (true,n2) =>
    if l.kind=0 then (if zal l.name||lets l.name then (false,lets) else qC (zdC lets l.name) checks n2 r)
    else (if checks l.name then (false,lets) else qC lets (zdC checks l.name) n2 r)
structure Pr where
 text:Bs
 deep:Nat
 most:Nat
def qZ (w:Pr) (s:Bs):Pr:={ w with text:=w.text++s }
def zdB (k:Nat):Nat:=[0,0,1,2,3,4].getD k 0
def ze6 (k:Nat):Bs:=[[],[],[124],[38],[92],[59],[94,45,49],[43],[42],[]].getD k []
mutual
def prT:Pr->Trm->Pr
 | w,.mk k nq kids =>
  if k=1 then qZ w nq
  else if k=9 then qZ (qZ (qZ w [91]) nq) [93]
  else if k=6\/k=7\/k=8 then qZ (prHead w 5 kids) (ze6 k.toNat)
  else prTail (qZ (qZ (qZ (prHead w (zdB k.toNat) kids) [32]) (ze6 k.toNat)) [32]) (zdB k.toNat+1) kids
def prHead:Pr->Nat->List Trm->Pr
 | w,_,[]=>w
 | w,least,t::r =>
  if zdB t.kind.toNat=0\/zdB t.kind.toNat ≥ least then prT w t
  else
   let w2:=prT (qZ { w with deep:=w.deep+1,most:=max w.most (w.deep+1) } [40]) t
   { qZ w2 [41] with deep:=w2.deep-1 }
def prTail:Pr->Nat->List Trm->Pr
 | w,_,[]=>w
 | w,least,t::r=>prHead w least r
end
def zb7 (w:Pr) (l:LineD):Pr :=
 let w1:=qZ (qZ w (qg.getD l.kind [])) [32]
 if l.kind=0 then qZ (prT (qZ (qZ w1 l.name) [32,61,32]) l.term) [10]
 else qZ (qZ (qZ (prT w1 l.term) [32,97,115,32]) l.name) [10]
def jN (l:List LineD):Option (Bs×(Bs->Bool)) :=
 if l.length > 40 then none else
 match qC (fun _=>false) (fun _=>false) 0 l with
 | (false,_)=>none
 | (true,lets) =>
  let w:=l.foldl zb7 ⟨[],0,0⟩
  if w.text.length > 8192\/w.most > 50 then none else some (w.text,lets)
def zfP:Bs:=[97,99,121,99,108,105,99,32,112,111,32,124,32,114,102,32,124,32,99,111,32,124,32,102,114,32,97,115,32,111,114,100,101,114]
abbrev nmT (s:Bs):Trm := .mk 1 s []
def znT:Bs:=[97,99,121,99,108,105,99,32,40,112,111,32,124,32,114,102,41,43,32,97,115,32,120]
abbrev nB (s:Bs):Trm := .mk 1 s []
abbrev sB (s:Bs):Trm := .mk 9 s []
abbrev uB (a b:Trm):Trm := .mk 2 [] [a,b]
abbrev iB (a b:Trm):Trm := .mk 3 [] [a,b]
abbrev qB (a b:Trm):Trm := .mk 5 [] [a,b]
def zgl:Nat->List LineD
 | 1=>[]
 | 2=>[⟨1,[111,114,100,101,114],(uB (uB (uB (qB (qB (sB [77]) (nB [112,111])) (sB [77])) (nB [114,102])) (nB [99,111])) (nB [102,114]))⟩]
 | 3=>[⟨0,[102,101,110,99,101,100],(qB (qB (qB (qB (sB [77]) (nB [112,111])) (sB [70,70])) (nB [112,111])) (sB [77]))⟩,⟨0,[98,111,117,110,100],(uB (qB (qB (sB [88]) (nB [112,111])) (sB [77])) (qB (qB (sB [77]) (nB [112,111])) (sB [88])))⟩,⟨0,[107,101,112,116],(uB (uB (uB (qB (qB (sB [82]) (nB [112,111])) (sB [77])) (qB (qB (sB [87]) (nB [112,111])) (sB [87]))) (nB [102,101,110,99,101,100])) (nB [98,111,117,110,100]))⟩,⟨1,[111,114,100,101,114],(uB (uB (uB (nB [107,101,112,116]) (iB (nB [114,102]) (nB [101,120,116]))) (nB [99,111])) (nB [102,114]))⟩]
 | 4=>[⟨0,[102,101,110,99,101,100],(qB (qB (qB (qB (sB [77]) (nB [112,111])) (sB [70,70])) (nB [112,111])) (sB [77]))⟩,⟨0,[98,111,117,110,100],(uB (qB (qB (sB [88]) (nB [112,111])) (sB [77])) (qB (qB (sB [77]) (nB [112,111])) (sB [88])))⟩,⟨0,[115,116,111,114,101,115],(uB (qB (qB (sB [87]) (iB (nB [112,111]) (nB [108,111,99]))) (sB [87])) (qB (qB (qB (qB (sB [87]) (nB [112,111])) (sB [70,83])) (nB [112,111])) (sB [87])))⟩,⟨0,[107,101,112,116],(uB (uB (uB (qB (qB (sB [82]) (nB [112,111])) (sB [77])) (nB [115,116,111,114,101,115])) (nB [102,101,110,99,101,100])) (nB [98,111,117,110,100]))⟩,⟨1,[111,114,100,101,114],(uB (uB (uB (nB [107,101,112,116]) (iB (nB [114,102]) (nB [101,120,116]))) (nB [99,111])) (nB [102,114]))⟩]
 | 5=>[⟨0,[102,101,110,99,101,100],(qB (qB (qB (qB (sB [77]) (nB [112,111])) (sB [70,70])) (nB [112,111])) (sB [77]))⟩,⟨0,[108,111,97,100,115],(uB (qB (qB (sB [65]) (nB [112,111])) (sB [77])) (qB (qB (qB (qB (sB [82]) (nB [112,111])) (sB [70,76])) (nB [112,111])) (sB [77])))⟩,⟨0,[115,116,111,114,101,115],(uB (qB (qB (sB [77]) (nB [112,111])) (sB [76])) (qB (qB (qB (qB (sB [77]) (nB [112,111])) (sB [70,83])) (nB [112,111])) (sB [87])))⟩,⟨0,[107,101,112,116],(uB (uB (nB [108,111,97,100,115]) (nB [115,116,111,114,101,115])) (nB [102,101,110,99,101,100]))⟩,⟨1,[111,114,100,101,114],(uB (uB (uB (nB [107,101,112,116]) (iB (nB [114,102]) (nB [101,120,116]))) (nB [99,111])) (nB [102,114]))⟩]
 | 6=>[⟨0,[102,101,110,99,101,100],(qB (qB (qB (qB (sB [77]) (nB [112,111])) (sB [70,70])) (nB [112,111])) (sB [77]))⟩,⟨0,[108,111,97,100,115],(qB (qB (qB (qB (sB [82]) (nB [112,111])) (sB [70,76])) (nB [112,111])) (sB [82]))⟩,⟨0,[115,116,111,114,101,115],(qB (qB (qB (qB (sB [87]) (nB [112,111])) (sB [70,83])) (nB [112,111])) (sB [87]))⟩,⟨0,[107,101,112,116],(uB (uB (uB (uB (uB (nB [100,97,116,97]) (qB (nB [99,116,114,108]) (sB [87]))) (nB [114,109,119])) (nB [108,111,97,100,115])) (nB [115,116,111,114,101,115])) (nB [102,101,110,99,101,100]))⟩,⟨1,[111,114,100,101,114],(uB (uB (uB (nB [107,101,112,116]) (iB (nB [114,102]) (nB [101,120,116]))) (nB [99,111])) (nB [102,114]))⟩]
 | _=>[]
def zbb (m:Nat):List LineD:=⟨1,[99,111,104,101,114,101,110,116],(uB (uB (uB (iB (nB [112,111]) (nB [108,111,99])) (nB [114,102])) (nB [99,111])) (nB [102,114]))⟩::⟨3,[97,116,111,109,105,99],(iB (nB [114,109,119]) (qB (nB [102,114]) (nB [99,111])))⟩::zgl m
def cmB:Bs:=[97,99,121,99,108,105,99,32,112,111,32,38,32,108,111,99,32,124,32,114,102,32,124,32,99,111,32,124,32,102,114,32,97,115,32,99,111,104,101,114,101,110,116,10,101,109,112,116,121,32,114,109,119,32,38,32,102,114,32,59,32,99,111,32,97,115,32,97,116,111,109,105,99,10]
def ffB:Bs:=[108,101,116,32,102,101,110,99,101,100,32,61,32,91,77,93,32,59,32,112,111,32,59,32,91,70,70,93,32,59,32,112,111,32,59,32,91,77,93,10]
def feB:Bs:=[108,101,116,32,98,111,117,110,100,32,61,32,91,88,93,32,59,32,112,111,32,59,32,91,77,93,32,124,32,91,77,93,32,59,32,112,111,32,59,32,91,88,93,10]
def laB:Bs:=[97,99,121,99,108,105,99,32,107,101,112,116,32,124,32,114,102,32,38,32,101,120,116,32,124,32,99,111,32,124,32,102,114,32,97,115,32,111,114,100,101,114,10]
def zdz:Nat->Bs
 | 1=>cmB
 | 2=>cmB++[97,99,121,99,108,105,99,32,91,77,93,32,59,32,112,111,32,59,32,91,77,93,32,124,32,114,102,32,124,32,99,111,32,124,32,102,114,32,97,115,32,111,114,100,101,114,10]
 | 3=>cmB++ffB++feB++[108,101,116,32,107,101,112,116,32,61,32,91,82,93,32,59,32,112,111,32,59,32,91,77,93,32,124,32,91,87,93,32,59,32,112,111,32,59,32,91,87,93,32,124,32,102,101,110,99,101,100,32,124,32,98,111,117,110,100,10]++laB
 | 4=>cmB++ffB++feB++[108,101,116,32,115,116,111,114,101,115,32,61,32,91,87,93,32,59,32,40,112,111,32,38,32,108,111,99,41,32,59,32,91,87,93,32,124,32,91,87,93,32,59,32,112,111,32,59,32,91,70,83,93,32,59,32,112,111,32,59,32,91,87,93,10,108,101,116,32,107,101,112,116,32,61,32,91,82,93,32,59,32,112,111,32,59,32,91,77,93,32,124,32,115,116,111,114,101,115,32,124,32,102,101,110,99,101,100,32,124,32,98,111,117,110,100,10]++laB
 | 5=>cmB++ffB++[108,101,116,32,108,111,97,100,115,32,61,32,91,65,93,32,59,32,112,111,32,59,32,91,77,93,32,124,32,91,82,93,32,59,32,112,111,32,59,32,91,70,76,93,32,59,32,112,111,32,59,32,91,77,93,10,108,101,116,32,115,116,111,114,101,115,32,61,32,91,77,93,32,59,32,112,111,32,59,32,91,76,93,32,124,32,91,77,93,32,59,32,112,111,32,59,32,91,70,83,93,32,59,32,112,111,32,59,32,91,87,93,10,108,101,116,32,107,101,112,116,32,61,32,108,111,97,100,115,32,124,32,115,116,111,114,101,115,32,124,32,102,101,110,99,101,100,10]++laB
 | 6=>cmB++ffB++[108,101,116,32,108,111,97,100,115,32,61,32,91,82,93,32,59,32,112,111,32,59,32,91,70,76,93,32,59,32,112,111,32,59,32,91,82,93,10,108,101,116,32,115,116,111,114,101,115,32,61,32,91,87,93,32,59,32,112,111,32,59,32,91,70,83,93,32,59,32,112,111,32,59,32,91,87,93,10,108,101,116,32,107,101,112,116,32,61,32,100,97,116,97,32,124,32,99,116,114,108,32,59,32,91,87,93,32,124,32,114,109,119,32,124,32,108,111,97,100,115,32,124,32,115,116,111,114,101,115,32,124,32,102,101,110,99,101,100,10]++laB
 | _=>[]
theorem zwL:qc (zdz 1)=(some (zbb 1),0,0):=by kernel_rfl
theorem zwK:qc (zdz 2)=(some (zbb 2),0,0):=by kernel_rfl
theorem zwJ:qc (zdz 3)=(some (zbb 3),0,0):=by kernel_rfl
theorem zwI:qc (zdz 4)=(some (zbb 4),0,0):=by kernel_rfl
theorem zwH:qc (zdz 5)=(some (zbb 5),0,0):=by kernel_rfl
theorem zwG:qc (zdz 6)=(some (zbb 6),0,0):=by kernel_rfl
theorem zvf:(jN (zbb 1)).isSome=true:=by kernel_rfl
theorem zve:(jN (zbb 2)).isSome=true:=by kernel_rfl
theorem zvd:(jN (zbb 3)).isSome=true:=by kernel_rfl
theorem zvc:(jN (zbb 4)).isSome=true:=by kernel_rfl
theorem zvb:(jN (zbb 5)).isSome=true:=by kernel_rfl
theorem zva:(jN (zbb 6)).isSome=true:=by kernel_rfl
mutual
def noPS:Trm->Bool
 | .mk k _ kids=>(decide (k≠7)&&decide (k≠8))&&noPSL kids
def noPSL:List Trm->Bool
 | []=>true
 | t::r=>noPS t&&noPSL r
end
theorem zkB:∀ {l:List Trm} {t:Trm},noPSL l=true->t∈l->noPS t=true
 | a::r,t,h,ht=>by
  rw [noPSL,Bool.and_eq_true_iff] at h;rcases UG.1 ht with e | ht
  ·rw [e];exact h.1
  ·exact zkB h.2 ht
def zdP (m:Nat):Bool:=(zbb m).all fun l=>noPS l.term&&decide (l.kind≠2)
theorem zu9:zdP 1=true:=by kernel_rfl
theorem zu8:zdP 2=true:=by kernel_rfl
theorem zu7:zdP 3=true:=by kernel_rfl
theorem zu6:zdP 4=true:=by kernel_rfl
theorem zu5:zdP 5=true:=by kernel_rfl
theorem zu4:zdP 6=true:=by kernel_rfl
theorem zs4 {m:Nat} (h1:1<=m) (h6:m<=6):qc (zdz m)=(some (zbb m),0,0)/\(jN (zbb m)).isSome=true/\zdP m=true:=by
 rcases (by omega:m=1\/m=2\/m=3\/m=4\/m=5\/m=6) with rfl | rfl | rfl | rfl | rfl | rfl
 ·exact⟨zwL,zvf,zu9⟩
 ·exact⟨zwK,zve,zu8⟩
 ·exact⟨zwJ,zvd,zu7⟩
 ·exact⟨zwI,zvc,zu6⟩
 ·exact⟨zwH,zvb,zu5⟩
 ·exact⟨zwG,zva,zu4⟩
theorem znB {m:Nat} (h:¬ (1<=m/\m<=6)):zdz m=[]:=by
 match m with
 | 0=>rfl
 | 1 | 2 | 3 | 4 | 5 | 6=>exact GA (by decide) h
 | n+7=>rfl
theorem zq2 (m:Nat):(zdz m).length<=500:=by
 match m with
 | 0 | 1 | 2 | 3 | 4 | 5 | 6=>exact JS (by kernel_rfl)
 | n+7=>exact Gg _
end Go.Proofs.YtnadlhpkpnfmbaaGreatDoor
namespace Go
open Go.RowKit
abbrev At0 (b:Nat):Value := .pointer (some ⟨b,0,none⟩)
theorem gE {α:Type _} {l:List α} {i:Nat} (h:i<l.length):l[i]?=some l[i]:=Jt h
theorem bAT (a b:Bool):((a&&b)=true)=(a=true/\b=true):=Qh a b
theorem dE {p:Prop} [Decidable p]:(decide p=true)=p:=decide_eq_true_eq
theorem cmo {P:Program} {f:FuncId} {args:Array Value} {w:Wd} {R R':Ending->Wd->Prop} (h:Calls P f args w R) (k:∀ e w',R e w'->R' e w'):Calls P f args w R':=h.mono k
theorem nL {a b c:Nat} (h:a<b) (k:b<=c):a<c:=KF h k
theorem wz (w:Wd) (o:Obj):(w.alloc o).heap.size=w.heap.size+1:=QG w o
theorem lap {α:Type _} {a b:List α}:(a++b).length=a.length+b.length:=List.length_append
theorem tsg {α:Type _} {i:Nat} {l:List α} (h:i<l.length):l.take (i+1)=l.take i++[l[i]]:=Jd h
theorem gDe {α:Type _} {l:List α} {i:Nat} {a:α}:l.getD i a=(l[i]?).getD a:=List.getD_eq_getElem?_getD
theorem gM {α:Type _} {l:List α} {i:Nat} (h:i<l.length):l[i]∈l:=List.getElem_mem h
theorem zdc {n k:Nat} (h:k<n):n-(k+1)<n-k:=by omega
abbrev Bw (w X:Wd):Prop:=Below w.heap.size w X
theorem zst {w X Y:Wd} (a:Below w.heap.size w X) (b:Below X.heap.size X Y):Below w.heap.size w Y:=a.trans (b.mono a.size)
theorem zba (w:Wd) (o:Obj):Below w.heap.size w (w.alloc o):=(Gj _ w).alloc (Ge _) _
theorem dT {p:Prop} [Decidable p] (h:decide p=true):p:=Qc h
theorem dF {p:Prop} [Decidable p] (h:decide p=false):¬ p:=KI h
end Go
namespace Go.Vc
open Go.RowKit
def FR (r:Option Nat):Fence:={ fn:=fun _=>True,depth:=none,alive:=false,round:=r }
abbrev VEnv:=List (Nat×Value)
def VEnv.find:VEnv->Nat->Option Value
 | [],_=>none
 | (k,v)::r,t=>match Nat.beq k t with
  | true=>some v
  | false=>VEnv.find r t
structure Env where
 vs:VEnv
 ds:List Deferred:=[]
def Env.find (E:Env) (t:Nat):Option Value:=VEnv.find E.vs t
inductive TK where
 | other | bool | string | int (k:IntKind) | slice (e esz:Nat) | array (n e esz:Nat) (eagg:Bool) | struct (fs:List (Nat×Nat×Bool)) | map (k v:Nat) | ptr (e:Nat)
structure TI where
 kind:TK
 size:Nat
 agg:Bool
 bytes:Nat
 zero:Option (List Value)
abbrev TT:=List (Nat×TI)
def TT.get:TT->Nat->Option TI
 | [],_=>none
 | (k,v)::r,t=>match Nat.beq k t with
  | true=>some v
  | false=>TT.get r t
def zfM (d:TypeDesc):Bool:=match d with | .struct _ | .array _ _=>true | _=>false
def zgz (P:Program) (t:Nat):Prop:=(∃ i,P.info? t=some i)/\∃ d,P.underlying t=some d
structure TIok (P:Program) (t:Nat) (i:TI):Prop where
 info:∃ inf,P.info? t=some inf/\inf.size=i.size/\inf.bytes=i.bytes/\∀ z,i.zero=some z->∃ v,inf.zero=some v/\v.cells.toList=z
 desc:∃ d,P.underlying t=some d/\zfM d=i.agg /\
  match i.kind with
  | .other=>True
  | .bool=>d = .bool
  | .string=>d = .string
  | .int k=>d = .int k
  | .slice e esz=>d = .slice e/\P.cellsOf e=esz/\zgz P e
  | .array n e esz eagg=>d = .array n e/\P.cellsOf e=esz/\((P.underlying e).map zfM).getD false=eagg/\zgz P e
  | .struct fs=>∃ F:Array Field,d = .struct F/\fs=F.toList.map (fun f=>(f.offset,P.cellsOf f.type,((P.underlying f.type).map zfM).getD false))/\∀ f∈F.toList,zgz P f.type
  | .map k v=>d = .map k v
  | .ptr e=>d = .pointer e
def zkx (g:Nat):List Nat->Bool
 | []=>true
 | x::r=>match Nat.beq x g with
  | true=>false
  | false=>zkx g r
structure Sig where
 P:Program
 τ:TT
 n:Nat
 lo:Nat
 hi:Nat
 r:Option Nat:=none
 no:List Nat:=[]
structure SigOk (S:Sig):Prop where
 ty:∀ t i,TT.get S.τ t=some i->TIok S.P t i
 call:∀ g,S.lo<=g->g<S.hi->zkx g S.no=true->∀ args w,(callFunc g args).run S.P w = .ok (.enter g args) w
 mixed:S.P.follows .mixedOrders=true
structure Agrees (S:Sig) (a:Act) (E:Env):Prop where
 size:a.tmps.size=S.n
 defers:a.defers=E.ds
 val:∀ t v,Env.find E t=some v->a.tmps[t]?=some v
def opd (E:Env):Operand->Option Value
 | .tmp t=>Env.find E t
 | .const v=>some v
 | .global g=>some (.pointer (some ⟨g,0,none⟩))
 | .func f=>some (.func (.func f) #[] #[])
theorem Agrees.eval {S:Sig} {a:Act} {E:Env} (h:Agrees S a E) {x:Operand} {v:Value} (hx:opd E x=some v):a.eval x=v:=by
 cases x with
 | tmp t =>
  have:=h.val t v hx;simp [Act.eval,this]
 | const u=>simpa [opd,Act.eval] using hx
 | global g=>simpa [opd,Act.eval] using hx
 | func f=>simpa [opd,Act.eval] using hx
inductive CovL (E:VEnv):VEnv->Prop
 | nil:CovL E []
 | cons {t:Nat} {v:Value} {r:VEnv} (h:VEnv.find E t=some v) (k:CovL E r):CovL E ((t,v)::r)
structure Cov (E E0:Env):Prop where
 c:CovL E.vs E0.vs
 d:E.ds=E0.ds
theorem CovL.find {E E0:VEnv} (h:CovL E E0):∀ t v,VEnv.find E0 t=some v->VEnv.find E t=some v:=by
 induction h with
 | nil=>intro t v h;simp [VEnv.find] at h
 | @cons t u r h _ ih =>
  intro t' v hf;simp only [VEnv.find] at hf
  cases hb:Nat.beq t t' with
  | true =>
   rw [hb] at hf;have:t=t':=JR hb;subst this;simp only [KZ] at hf;subst hf;exact h
  | false=>rw [hb] at hf;exact ih t' v hf
theorem Agrees.cov {S:Sig} {a:Act} {E E0:Env} (h:Agrees S a E) (c:Cov E E0):Agrees S a E0 :=
 ⟨h.size,h.defers.trans c.d,fun t v hf=>h.val t v (c.c.find t v hf)⟩
def zdD (dst:Option Nat) (v:Value) (E:Env):Env:=match dst with | some d=>⟨(d,v)::E.vs,E.ds⟩ | none=>E
def zm9 (n:Nat):Option Nat->Bool
 | none=>true
 | some d=>Nat.blt d n
theorem Agrees.put {S:Sig} {a:Act} {E:Env} (h:Agrees S a E) {dst:Option Nat} (hd:zm9 S.n dst=true) (v:Value):Agrees S (a.put dst v) (zdD dst v E):=by
 cases dst with
 | none=>exact h
 | some d =>
  have hd':d<S.n:=by simpa [zm9,Gm] using hd
  refine⟨by simp [Act.put,h.size],h.defers,fun t u hf=>?_⟩;simp only [zdD,Env.find,VEnv.find] at hf
  cases hb:Nat.beq d t with
  | true =>
   rw [hb] at hf;have e:d=t:=JR hb;subst e;simp only [KZ] at hf;subst hf;simp [Act.put,h.size,hd']
  | false =>
   rw [hb] at hf;have e:d≠t:=fun e=>by subst e;simp at hb
   have:=h.val t u hf;simp [Act.put,e,this]
def Ar (k:IntKind) (e:Int) (K:Value->Prop):Prop:=∃ r,k.wrap e=r/\K (.int k r)
def zw (w:Wd) (p:Addr) (vs:List Value):Prop:=∀ i v,vs[i]?=some v->w.cell? (p.add i)=some v
def SatR {α:Type} (r:Result α) (K:α->Wd->Prop):Prop:=∃ v w',r = .ok v w'/\K v w'
theorem SatR.mk {α:Type} {r:Result α} {K:α->Wd->Prop} {v:α} {w':Wd} (h:r = .ok v w') (k:K v w'):SatR r K:=⟨v,w',h,k⟩
def Br (b:Bool) (A B:Prop):Prop:=(b=true->A)/\(b=false->B)
def ztw (P:Program) (d:TypeDesc):TK->Bool
 | .other=>true
 | .bool=>(match d with | .bool=>true | _=>false)
 | .string=>(match d with | .string=>true | _=>false)
 | .int k=>(match d with | .int k'=>decide (k'=k) | _=>false)
 | .slice e esz=>(match d with | .slice e'=>Nat.beq e' e&&Nat.beq (P.cellsOf e) esz&&(P.info? e).isSome&&(P.underlying e).isSome | _=>false)
 | .array n e esz eagg=>(match d with | .array n' e'=>Nat.beq n' n&&Nat.beq e' e&&Nat.beq (P.cellsOf e) esz&&(((P.underlying e).map zfM).getD false == eagg)&&(P.info? e).isSome&&(P.underlying e).isSome | _=>false)
 | .struct fs=>(match d with
  | .struct F=>decide (fs=F.toList.map (fun f=>(f.offset,P.cellsOf f.type,((P.underlying f.type).map zfM).getD false)))&&F.toList.all fun f=>(P.info? f.type).isSome&&(P.underlying f.type).isSome
  | _=>false)
 | .map k v=>(match d with | .map k' v'=>Nat.beq k' k&&Nat.beq v' v | _=>false)
 | .ptr e=>(match d with | .pointer e'=>Nat.beq e' e | _=>false)
def zqO (P:Program) (t:Nat) (i:TI):Bool :=
 match P.underlying t with
 | some d=>(zfM d == i.agg)&&ztw P d i.kind
 | none=>false
theorem jL {P:Program} {t:Nat} (h1:(P.info? t).isSome=true) (h2:(P.underlying t).isSome=true):zgz P t :=
 ⟨Option.isSome_iff_exists.1 h1,Option.isSome_iff_exists.1 h2⟩
theorem zw3 {P:Program} {t:Nat} {i:TI} (h1:(P.info? t).map (fun x=>(x.size,x.bytes))=some (i.size,i.bytes))
  (h2:∀ z,i.zero=some z->((P.info? t).bind (fun x=>x.zero)).map (fun v=>v.cells.toList)=some z) (h3:zqO P t i=true):TIok P t i:=by
 obtain⟨inf,hi,he⟩:=Option.map_eq_some_iff.1 h1;simp only [UK] at he;refine⟨⟨inf,hi,he.1,he.2,fun z hz=>?_⟩,?_⟩
 ·have:=h2 z hz;rw [hi] at this;obtain⟨v,hv,hc⟩:=Option.map_eq_some_iff.1 this;exact⟨v,hv,hc⟩
 ·unfold zqO at h3
  split at h3
  ·rename_i d hd;simp only [bAT,beq_iff_eq] at h3;refine⟨d,hd,h3.1,?_⟩;have h4:=h3.2;generalize i.kind=k at h4
   cases k <;> simp only [ztw] at h4
   case other=>trivial
   case bool=>split at h4 <;> simp_all
   case string=>split at h4 <;> simp_all
   case int k=>split at h4 <;> simp_all
   case slice e esz =>
    split at h4
    ·simp only [bAT] at h4;obtain⟨⟨⟨a,b⟩,c⟩,e⟩:=h4;exact⟨by rw [JR a],JR b,jL c e⟩
    ·cases h4
   case array n e esz eagg =>
    split at h4
    ·simp only [bAT,beq_iff_eq] at h4;obtain⟨⟨⟨⟨⟨a,b⟩,c⟩,e⟩,f⟩,g⟩:=h4;have a':=JR a;have b':=JR b;subst a' b';exact⟨rfl,JR c,e,jL f g⟩
    ·cases h4
   case struct fs =>
    split at h4
    ·rename_i F;simp only [bAT,dE,Qj] at h4;exact⟨F,rfl,h4.1,fun f hf=>jL (h4.2 f hf).1 (h4.2 f hf).2⟩
    ·cases h4
   case map k v =>
    split at h4
    ·simp only [bAT] at h4;rw [JR h4.1,JR h4.2]
    ·cases h4
   case ptr e =>
    split at h4
    ·rw [JR h4]
    ·cases h4
  ·cases h3
inductive TTok (P:Program):TT->Prop
 | nil:TTok P []
 | cons {t:Nat} {i:TI} {r:TT} (h:TIok P t i) (k:TTok P r):TTok P ((t,i)::r)
theorem TTok.get {P:Program}:∀ {τ:TT},TTok P τ->∀ t i,TT.get τ t=some i->TIok P t i
 | [],_,t,i,h=>by simp [TT.get] at h
 | (u,j)::r,.cons hj hr,t,i,h=>by
  simp only [TT.get] at h
  cases hb:Nat.beq u t with
  | true =>
   rw [hb] at h;simp only [KZ] at h;have e:=JR hb;subst e h;exact hj
  | false=>rw [hb] at h;exact hr.get t i h
def zqY (P:Program) (lo hi:Nat) (no:List Nat):Bool :=
 (List.range (hi-lo)).all fun k=>match zkx (lo+k) no with
  | false=>true
  | true=>match P.funcs[lo+k]? with
   | some fn => fn.name != "runtime.NumGoroutine" && fn.body.isSome
   | none=>false
theorem zu1 {P:Program} {lo hi:Nat} {no:List Nat} (h:zqY P lo hi no=true):∀ g,lo<=g->g<hi->zkx g no=true->∀ args w,(callFunc g args).run P w = .ok (.enter g args) w:=by
 intro g h1 h2 hn args w;simp only [zqY,Qj,Ur] at h;have h3:=h (g-lo) (by omega);rw [show lo+(g-lo)=g by omega,hn] at h3;dsimp only at h3
 split at h3
 ·rename_i fn hf;simp only [bAT,bne_iff_ne,ne_eq] at h3;simp [callFunc,hf,h3.1,Option.isSome_iff_ne_none.1 h3.2]
 ·cases h3
theorem nm {α:Sort _} (a:α):∃ x,x=a:=⟨a,rfl⟩
def zuT (E:VEnv):VEnv->List (Option Value)
 | []=>[]
 | (t,_)::r=>VEnv.find E t::zuT E r
def zuS:VEnv->List (Option Value)
 | []=>[]
 | (_,v)::r=>some v::zuS r
theorem zwD {E:VEnv}:∀ {E0:VEnv},zuT E E0=zuS E0->CovL E E0
 | [],_ => .nil
 | (t,v)::r,h => .cons (Jv h) (zwD (List.tail_eq_of_cons_eq h))
theorem cvE {E E0:Env} (h:zuT E.vs E0.vs=zuS E0.vs) (d:E.ds=E0.ds):Cov E E0:=⟨zwD h,d⟩
theorem biE {b:Bool} {A B:Prop} (h:b=true->A) (k:b=false->B):(b=true->A)/\(b=false->B):=⟨h,k⟩
end Go.Vc
namespace Go.Vc
open Go.RowKit
def zZ (E:Env) (x:Operand) (f:Value->Prop):Prop:=match opd E x with | some v=>f v | none=>False
def zg2 (E:Env):List Operand->(List Value->Prop)->Prop
 | [],f=>f []
 | x::r,f=>zZ E x fun v=>zg2 E r fun vs=>f (v::vs)
theorem zx {E:Env} {x:Operand} {f:Value->Prop} (h:zZ E x f):∃ v,opd E x=some v/\f v:=by
 unfold zZ at h
 split at h
 ·exact⟨_,by assumption,h⟩
 ·exact h.elim
theorem zbg {S:Sig} {E:Env}:∀ {l:List Operand} {f:List Value->Prop},zg2 E l f->∃ vs,f vs/\∀ a,Agrees S a E->l.map a.eval=vs
 | [],f,h=>⟨[],h,fun _ _=>rfl⟩
 | x::r,f,h=>by
  obtain⟨v,hv,h⟩:=zx h;obtain⟨vs,hf,ha⟩:=zbg (S:=S) h;exact⟨v::vs,hf,fun a hag=>by simp only [UF,hag.eval hv,ha a hag]⟩
def znL (P:Program) (m:Sem Value) (K:Value->Prop):Prop:=∃ v,(∀ w,m.run P w = .ok v w)/\K v
def ziV (P:Program) (w:Wd) (m:Sem Value) (K:Value->Prop):Prop:=∃ v,(∀ w2,Bw w w2->m.run P w2 = .ok v w2)/\K v
def kEq (k k':IntKind):Bool:=decide (k=k')
def zsr (op:BinOp) (k:IntKind) (a b:Int) (K:Value->Prop):Prop :=
 match op with
 | .lss=>K (.bool (decide (a<b)))
 | .leq=>K (.bool (decide (a<=b)))
 | .gtr=>K (.bool (decide (b<a)))
 | .geq=>K (.bool (decide (b<=a)))
 | .eql=>K (.bool (decide (a=b)))
 | .neq=>K (.bool (!decide (a=b)))
 | .add=>Ar k (a+b) K
 | .sub=>Ar k (a-b) K
 | .mul=>Ar k (a*b) K
 | .quo=>b≠0/\Ar k (a.tdiv b) K
 | .rem=>b≠0/\∃ r,a.tmod b=r/\K (.int k r)
 | .and=>∃ r,k.wrap ((BitVec.ofInt k.bits a&&&BitVec.ofInt k.bits b).toNat)=r/\K (.int k r)
 | .or=>∃ r,k.wrap ((BitVec.ofInt k.bits a|||BitVec.ofInt k.bits b).toNat)=r/\K (.int k r)
 | .xor=>∃ r,k.wrap ((BitVec.ofInt k.bits a ^^^ BitVec.ofInt k.bits b).toNat)=r/\K (.int k r)
 | .andNot=>∃ r,k.wrap ((BitVec.ofInt k.bits a &&& ~~~ BitVec.ofInt k.bits b).toNat)=r/\K (.int k r)
 | _=>False
def zs6 (P:Program) (op:BinOp) (T:TypeId) (x y:Operand) (vx vy:Value) (K:Value->Prop):Prop :=
 match vx,vy with
 | .int k a,.int k' b =>
  match op with
  | .shl=>0<=b/\Ar k (a*2^(min b.toNat k.bits)) K
  | .shr=>0<=b/\∃ r,a.fdiv (2^(min b.toNat k.bits))=r/\K (.int k r)
  | op=>match kEq k k' with
   | true=>zsr op k a b K
   | false=>False
 | vx,vy=>znL P (do eqGuard op T x y vx vy;binOp op T vx vy) K
def zjx (o:Option TI) (f:Nat) (g:Nat->Nat->Bool->Prop):Prop :=
 match o with
 | some { kind := .struct fs,.. }=>(match fs[f]? with
  | some (off,sz,agg)=>g off sz agg
  | none=>False)
 | _=>False
def ziz (off sz:Nat) (agg:Bool) (cs:List Value) (K:Value->Prop):Prop :=
 match agg with
 | true=>K (.agg ((cs.drop off).take sz).toArray)
 | false=>match cs[off]? with
  | some v=>K v
  | none=>False
def idx (vi:Value) (n:Nat) (g:Nat->Prop):Prop :=
 match vi with
 | .int _ i=>∃ j:Nat,(j:Int)=i/\j<n/\g j
 | _=>False
def zeR (o:Option TI) (vx vi:Value) (K:Value->Prop):Prop :=
 match o with
 | some { kind := .slice _ esz,.. }=>(match vx with
  | .slice (some ⟨b,o,none⟩) len _=>idx vi len fun j=>K (.pointer (some ⟨b,o+j*esz,none⟩))
  | _=>False)
 | some { kind := .array n _ esz _,.. }=>(match vx with
  | .pointer (some ⟨b,o,none⟩)=>idx vi n fun j=>K (.pointer (some ⟨b,o+j*esz,none⟩))
  | _=>False)
 | _=>False
def bnd (o:Option Value) (dflt top:Nat) (g:Nat->Prop):Prop :=
 match o with
 | none=>g dflt
 | some (.int _ i)=>∃ j:Nat,(j:Int)=i/\j<=top/\g j
 | some _=>False
def je (base:OA) (m l esz:Nat):OA:=if m=l then base else base.map (·.add (l*esz))
def zlL (o:Option TI) (vx:Value) (lo hi:Option Value) (K:Value->Prop):Prop :=
 match o with
 | some { kind := .slice _ esz,.. }=>(match vx with
  | .slice base len cap=>bnd hi len cap fun h=>bnd lo 0 h fun l=>K (.slice (je base cap l esz) (h-l) (cap-l))
  | _=>False)
 | some { kind := .array n _ esz _,.. }=>(match vx with
  | .pointer (some a)=>bnd hi n n fun h=>bnd lo 0 h fun l=>K (.slice (je (some a) n l esz) (h-l) (n-l))
  | _=>False)
 | some { kind := .string,.. }=>(match vx with
  | .string s=>bnd hi s.size s.size fun h=>bnd lo 0 h fun l=>K (.string (s.extract l h))
  | _=>False)
 | _=>False
def zjW (E:Env) (o:Option Operand) (f:Option Value->Prop):Prop :=
 match o with
 | none=>f none
 | some x=>zZ E x fun v=>f (some v)
def zcs (l:List Value) (off:Nat):List Value->List Value
 | []=>l
 | v::r=>zcs (l.set off v) (off+1) r
def zdx (place:Nat->Option (Nat×Nat)) (cells:List Value):List (Nat×Value)->Option (List Value)
 | []=>some cells
 | (i,v)::qY=>match place i with
  | none=>none
  | some (off,sz)=>match Nat.beq v.cells.size sz&&Nat.ble (off+sz) cells.length with
   | true=>zdx place (zcs cells off v.cells.toList) qY
   | false=>none
def zgA:List (Nat×Operand)->List Value->List (Nat×Value)
 | (i,_)::r,v::vs=>(i,v)::zgA r vs
 | _,_=>[]
def zfU (fs:List (Nat×Nat×Bool)) (i:Nat):Option (Nat×Nat) :=
 match fs[i]? with
 | some (off,sz,_)=>some (off,sz)
 | none=>none
def zq1 (o:Option TI) (ps:List (Nat×Operand)) (vs:List Value) (K:Value->Prop):Prop :=
 match o with
 | some { kind := .struct fs,zero:=some z,.. }=>∃ cells,zdx (zfU fs) z (zgA ps vs)=some cells/\K (.agg cells.toArray)
 | some { kind := .array _ _ esz _,zero:=some z,.. }=>∃ cells,zdx (fun i=>some (i*esz,esz)) z (zgA ps vs)=some cells/\K (.agg cells.toArray)
 | _=>False
def zcE (z:List Value):Nat->List Value
 | 0=>[]
 | n+1=>z++zcE z n
def isN (op:Op):Bool :=
 match op with
 | .move _ | .assign _ | .pick .. | .binOp .. | .unOp .. | .field .. | .index .. | .fieldAddr .. | .indexAddr .. | .slice .. | .extract .. | .makeFunc .. | .nilCheck _ | .build .. => true
 | _=>false
def zpN (S:Sig) (E:Env) (op:Op) (w:Wd) (K:Value->Prop):Prop :=
 match op with
 | .move x=>zZ E x K
 | .assign x=>zZ E x K
 | .pick c a b=>zZ E c fun vc=>zZ E a fun va=>zZ E b fun vb=>(match vc with
  | .bool t=>K (match t with | true=>va | false=>vb)
  | _=>False)
 | .binOp op T x y _=>zZ E x fun vx=>zZ E y fun vy=>zs6 S.P op T x y vx vy K
 | .unOp op _ x=>zZ E x fun v=>(match op,v with
  | .not,.bool b=>K (.bool (!b))
  | .neg,.int k n=>Ar k (0-n) K
  | op,v=>znL S.P (Op.unary op v) K)
 | .convert s d x=>zZ E x fun v=>(match TT.get S.τ s,TT.get S.τ d,v with
  | some _,some { kind := .int k,.. },.int _ n=>Ar k n K
  | _,_,v=>ziV S.P w (convert s d v) K)
 | .field T x f=>zZ E x fun v=>zjx (TT.get S.τ T) f fun off sz agg=>(match v with
  | .agg cs=>ziz off sz agg cs.toList K
  | _=>False)
 | .index T x i=>zZ E x fun vx=>zZ E i fun vi=>(match TT.get S.τ T,vx with
  | some { kind := .array n _ esz eagg,.. },.agg cs=>idx vi n fun j=>ziz (j*esz) esz eagg cs.toList K
  | some { kind := .string,.. },.string s=>idx vi s.size fun j=>∃ u,s.data.toList[j]?=some u/\K (.int .u8 u.toNat)
  | _,_=>False)
 | .fieldAddr T x f=>zZ E x fun v=>zjx (TT.get S.τ T) f fun off sz _=>(match Nat.beq sz 0 with
  | true=>False
  | false=>(match v with
   | .pointer (some ⟨b,o,none⟩)=>K (.pointer (some ⟨b,o+off,none⟩))
   | _=>False))
 | .indexAddr T x i=>zZ E x fun vx=>zZ E i fun vi=>zeR (TT.get S.τ T) vx vi K
 | .slice T x lo hi mx=>zZ E x fun vx=>zjW E lo fun l=>zjW E hi fun h=>(match mx with
  | none=>zlL (TT.get S.τ T) vx l h K
  | some _=>False)
 | .lookup T x i ok=>zZ E x fun vx=>zZ E i fun vi=>ziV S.P w (Instr.lookup T vx vi ok) K
 | .build T ps=>zg2 E (ps.toList.map (·.2)) fun vs=>zq1 (TT.get S.τ T) ps.toList vs K
 | .extract t i=>zZ E t fun v=>(match v with
  | .tuple vs=>(match vs.toList[i]? with
   | some u=>K u
   | none=>False)
  | _=>False)
 | .makeFunc fn first captured=>zg2 E first.toList fun fs=>zg2 E captured.toList fun cs=>K (.func fn fs.toArray cs.toArray)
 | .nilCheck x=>zZ E x fun v=>(match v with
  | .pointer (some a)=>K (.pointer (some a))
  | .func (.func f) a b=>K (.func (.func f) a b)
  | _=>False)
 | .load T a=>zZ E a fun v=>(match v with
  | .pointer (some p)=>(match TT.get S.τ T with
   | some { agg:=true,size:=sz,.. }=>∃ vs:List Value,vs.length=sz/\zw w p vs/\(p.block<w.heap.size)/\K (.agg vs.toArray)
   | some { agg:=false,.. }=>∃ u,w.cell? p=some u/\K u
   | none=>False)
  | _=>False)
 | .call c=>(match c.callee with
  | .builtin .len=>(match c.args.toList,c.argTypes.toList with
   | [x],[T]=>zZ E x fun v=>(match TT.get S.τ T,v with
    | some { kind := .slice _ _,.. },.slice _ n _=>K (.int .i64 n)
    | some { kind := .string,.. },.string s=>K (.int .i64 s.size)
    | some { kind := .array n _ _ _,.. },_=>K (.int .i64 n)
    | _,_=>False)
   | _,_=>False)
  | _=>False)
 | _=>False
section
variable {P:Program} {w:Wd}
theorem zbC (b o:Nat) (j:Nat):(⟨b,o,none⟩:Addr).add j=⟨b,o+j,none⟩:=by
 unfold Addr.add;split <;> simp_all
theorem zqm {op:BinOp} {k:IntKind} {a b:Int} {K:Value->Prop} (T:TypeId) (x y:Operand) (h1:op ≠ .shl) (h2:op ≠ .shr) (h:zsr op k a b K) :
  ∃ v,K v/\∀ w,(do eqGuard op T x y (.int k a) (.int k b);binOp op T (.int k a) (.int k b):Sem Value).run P w = .ok v w:=by
 have hg:∀ w,(eqGuard op T x y (.int k a) (.int k b)).run P w = .ok () w:=by
  intro w;unfold eqGuard;cases op <;> simp
 have hb:∀ v,(∀ w,(binOp op T (.int k a) (.int k b)).run P w = .ok v w)->∀ w,(do eqGuard op T x y (.int k a) (.int k b);binOp op T (.int k a) (.int k b):Sem Value).run P w = .ok v w:=by
  intro v hv w;rw [Ga,hg w,Qa,hv w]
 cases op <;> simp only [zsr] at h
 case lss=>exact⟨_,h,hb _ fun w=>by simp [binOp,Op.intCmp]⟩
 case leq=>exact⟨_,h,hb _ fun w=>by simp [binOp,Op.intCmp]⟩
 case gtr=>exact⟨_,h,hb _ fun w=>by simp [binOp,Op.intCmp]⟩
 case geq=>exact⟨_,h,hb _ fun w=>by simp [binOp,Op.intCmp]⟩
 case eql=>exact⟨_,h,hb _ fun w=>by simp [binOp,Op.intCmp];rfl⟩
 case neq=>exact⟨_,h,hb _ fun w=>by simp [binOp,Op.intCmp];rfl⟩
 case add=>obtain⟨r,e,hk⟩:=h;exact⟨_,hk,hb _ fun w=>by simp [binOp,Op.intArith,e]⟩
 case sub=>obtain⟨r,e,hk⟩:=h;exact⟨_,hk,hb _ fun w=>by simp [binOp,Op.intArith,e]⟩
 case mul=>obtain⟨r,e,hk⟩:=h;exact⟨_,hk,hb _ fun w=>by simp [binOp,Op.intArith,e]⟩
 case quo=>obtain⟨h0,r,e,hk⟩:=h;exact⟨_,hk,hb _ fun w=>by simp [binOp,Op.intDiv,e,h0]⟩
 case rem=>obtain⟨h0,r,e,hk⟩:=h;exact⟨_,hk,hb _ fun w=>by simp [binOp,Op.intDiv,e,h0]⟩
 case and=>obtain⟨r,e,hk⟩:=h;exact⟨_,hk,hb _ fun w=>by simp only [binOp,ne_eq,Qb,Gt,Op.intBits,Gb,e]⟩
 case or=>obtain⟨r,e,hk⟩:=h;exact⟨_,hk,hb _ fun w=>by simp only [binOp,ne_eq,Qb,Gt,Op.intBits,Gb,e]⟩
 case xor=>obtain⟨r,e,hk⟩:=h;exact⟨_,hk,hb _ fun w=>by simp only [binOp,ne_eq,Qb,Gt,Op.intBits,Gb,e]⟩
 case andNot=>obtain⟨r,e,hk⟩:=h;exact⟨_,hk,hb _ fun w=>by simp only [binOp,ne_eq,Qb,Gt,Op.intBits,Gb,e]⟩
theorem zq4 {op:BinOp} {T:TypeId} {x y:Operand} {vx vy:Value} {K:Value->Prop} (h:zs6 P op T x y vx vy K) :
  ∃ v,K v/\∀ w,(do eqGuard op T x y vx vy;binOp op T vx vy:Sem Value).run P w = .ok v w:=by
 unfold zs6 at h
 split at h
 ·rename_i k a k' b
  split at h
  ·obtain⟨h0,r,e,hk⟩:=h;exact⟨_,hk,fun w=>by simp [eqGuard,binOp,Op.shift,e,Int.not_lt.2 h0]⟩
  ·obtain⟨h0,r,e,hk⟩:=h;exact⟨_,hk,fun w=>by simp [eqGuard,binOp,Op.shift,e,Int.not_lt.2 h0]⟩
  ·rename_i n1 n2
   split at h
   ·rename_i hk;have:k=k':=(by simpa [kEq] using hk);subst this;exact zqm T x y n1 n2 h
   ·exact h.elim
 ·obtain⟨v,hv,hk⟩:=h;exact⟨v,hk,hv⟩
theorem ziy {off sz:Nat} {agg:Bool} {cs:Array Value} {K:Value->Prop} {t:TypeId} (h:ziz off sz agg cs.toList K)
  (ha:((P.underlying t).map zfM).getD false=agg) (hs:P.cellsOf t=sz) (hn:zgz P t) :
  ∃ v,K v/\∀ w,(part t cs off).run P w = .ok v w:=by
 obtain⟨⟨i,hi⟩,d,hd⟩:=hn;have hagg:∀ w,(isAgg t).run P w = .ok agg w:=by
  intro w;rw [hd] at ha;simp only [Uf,QE] at ha;simp only [isAgg,Ga,Uv hd,Qa];rw [<- ha]
  cases d <;> rfl
 have hsz:∀ w,(sizeOf t).run P w = .ok sz w:=by
  intro w;rw [<- hs];simp [sizeOf,typeInfo,hi,Program.cellsOf]
 unfold ziz at h
 split at h
 ·refine⟨_,h,fun w=>?_⟩;simp only [part,Ga,hagg w,Qa,Gx,hsz w,Gb];congr 2;apply Qe.1;simp [JT,List.extract_eq_take_drop]
 ·split at h
  ·rename_i v hv;refine⟨_,h,fun w=>?_⟩;have hv':cs[off]?=some v:=by simpa using hv
   simp only [part,Ga,hagg w,Qa,hv',Kt,Gt,Gb]
  ·exact h.elim
theorem za5 {t:TypeId} {sz:Nat} (hn:zgz P t) (hs:P.cellsOf t=sz):∀ w,(sizeOf t).run P w = .ok sz w:=by
 intro w;obtain⟨⟨i,hi⟩,_⟩:=hn;rw [<- hs];simp [sizeOf,typeInfo,hi,Program.cellsOf]
theorem znC {o:Option Value} {top dflt:Nat} {code:BoundsCode} {g:Nat->Prop} (h:bnd o dflt top g) :
  ∃ j,g j/\j<=(match o with | none=>dflt | some _=>top)/\∀ w,(match o with | some v=>Instr.sliceBound v top code | none=>pure dflt:Sem Nat).run P w = .ok j w:=by
 unfold bnd at h
 split at h
 ·exact⟨dflt,h,Ge _,fun w=>rfl⟩
 ·rename_i k i;obtain⟨j,rfl,hj,hg⟩:=h;refine⟨j,hg,hj,fun w=>?_⟩;have h1:(0:Int)<=(j:Int)/\(j:Int)<=(top:Int):=⟨by omega,by omega⟩;simp [Instr.sliceBound,asIntOf,h1]
 ·exact h.elim
theorem zbD {isSlice:Bool} {len cap:Nat} {lo hi:Option Value} {g:Nat->Nat->Prop} (h:bnd hi len cap fun h=>bnd lo 0 h fun l=>g h l) :
  ∃ l h,g h l/\∀ w,(Instr.sliceBounds isSlice len cap lo hi none).run P w = .ok (l,h,cap) w:=by
 obtain⟨hh,h2,_,r1⟩:=znC (P:=P) (code:=if isSlice then .sliceAcap else .sliceAlen) h;obtain⟨l,h3,_,r2⟩:=znC (P:=P) (code := .sliceB) h2;refine⟨l,hh,h3,fun w=>?_⟩;have e1:=r1 w;have e2:=r2 w;unfold Instr.sliceBounds
 cases hi <;> cases lo <;> simp_all
theorem zkj (off:Nat):∀ (vs:List Value) (j:Nat) (l:List Value),((vs.toArray.zipIdx j).foldl (fun cs (c,j)=>cs.setIfInBounds (off+j) c) l.toArray)=(zcs l (off+j) vs).toArray
 | [],j,l=>by rw [<- Kr];simp [zcs]
 | v::r,j,l=>by
  have ih:=zkj off r (j+1) (l.set (off+j) v);simp only [zcs];rw [<- UI] at ih;rw [<- ih,<- Kr,<- Kr];simp
theorem zfD {place:Nat->Option (Nat×Nat)}:∀ (parts:List (Nat×Value)) (cells out:List Value),zdx place cells parts=some out->Instr.fill place cells.toArray parts=some out.toArray
 | [],cells,out,h=>by simp only [zdx,KZ] at h;subst h;rfl
 | (i,v)::r,cells,out,h=>by
  simp only [zdx] at h
  split at h
  ·cases h
  ·rename_i off sz hp
   split at h
   ·rename_i hc;simp only [bAT,Gl] at hc;have h1:=JR hc.1;have ih:=zfD r _ out h;have e:=zkj off v.cells.toList 0 cells;simp only [UR] at e;simp only [Instr.fill,hp,h1,ne_eq,Qb,Gc,Ux,KX,dE,gt_iff_lt];rw [Gy (by omega),<- ih];congr 1
   ·cases h
theorem zgY (z:List Value):∀ n,(zcE z n).length=n*z.length
 | 0=>by simp [zcE]
 | n+1=>by simp only [zcE,lap,zgY z n,Gd];omega
theorem zjR (z:List Value) (hz:0<z.length):∀ (n i:Nat),i<n*z.length->(zcE z n)[i]?=z[i%z.length]?
 | 0,i,h=>by omega
 | n+1,i,h=>by
  simp only [zcE,List.getElem?_append]
  split
  ·rename_i hi;rw [QC hi]
  ·rename_i hi;rw [Gd] at h;rw [zjR z hz n (i-z.length) (by omega)];rw [show i%z.length=(i-z.length)%z.length from Nat.mod_eq_sub_mod (by omega)]
theorem zmL (z:List Value) (hz:0<z.length) (n:Nat):((Array.range (n*z.length)).map (z.toArray[· % z.toArray.size]!))=(zcE z n).toArray:=by
 apply Array.ext
 ·simp [zgY]
 ·intro i h1 h2;have h1':i<n*z.length:=by simpa using h1
  have hm:i%z.length<z.length:=Gn _ hz;have:=zjR z hz n i h1';rw [gE hm] at this;simp only [Array.getElem_map,Array.getElem_range,KX,List.getElem_toArray];have h3:(zcE z n)[i]?=some (zcE z n)[i]:=gE (by simpa using h2);rw [h3] at this;simp only [KZ] at this;rw [this,getElem!_pos _ _ (by simpa using hm)];rfl
end
theorem zdp {w w2:Wd} (hb:Bw w w2) {p:Addr} {u:Value} (h:w.cell? p=some u):w2.cell? p=some u :=
 (hb.cell (Jy w p h)).trans h
theorem zfy {vi:Value} {n:Nat} {g:Nat->Prop} (h:idx vi n g):∃ k j,vi = .int k (j:Nat)/\j<n/\g j:=by
 unfold idx at h
 split at h
 ·rename_i k i;obtain⟨j,rfl,hj,hg⟩:=h;exact⟨k,j,rfl,hj,hg⟩
 ·exact h.elim
theorem zgq {P:Program} {w:Wd} {T:Nat} {i:TI} (ht:TIok P T i) (ha:i.agg=true) {p:Addr} {vs:List Value} (hl:vs.length=i.size) (hc:zw w p vs) :
  (loadVar T p).run P w = .ok (.agg vs.toArray) w:=by
 obtain⟨⟨inf,hi,hs,_,_⟩,d,hd,hda,_⟩:=ht;have hagg:(isAgg T).run P w = .ok true w:=by
  simp only [isAgg,Ga,Uv hd,Qa];rw [<- ha,<- hda];cases d <;> rfl
 have hsz:(sizeOf T).run P w = .ok vs.length w:=by
  rw [hl,<- hs];simp [sizeOf,typeInfo,hi]
 have hld:=run_loadCells_list (P:=P) w p vs hc;simp only [loadVar,Ga,hagg,Qa,Gx,hsz,hld,Gb]
theorem zgp {P:Program} {w:Wd} {T:Nat} {i:TI} (ht:TIok P T i) (ha:i.agg=false) {p:Addr} {u:Value} (hc:w.cell? p=some u) :
  (loadVar T p).run P w = .ok u w:=by
 obtain⟨_,d,hd,hda,_⟩:=ht;have hagg:(isAgg T).run P w = .ok false w:=by
  simp only [isAgg,Ga,Uv hd,Qa];rw [<- ha,<- hda];cases d <;> rfl
 simp only [loadVar,Ga,hagg,Qa,Kt,Gt,run_load,hc]
theorem zt {w w2:Wd} (hb:Bw w w2) {p:Addr} {vs:List Value} (h:zw w p vs):zw w2 p vs :=
 fun i v hv=>zdp hb (h i v hv)
def zvk (S:Sig) (E:Env) (o:Oper) (w:Wd) (v:Value):Prop :=
 ∀ a,Agrees S a E->∀ w2,(isN o.op=true\/Bw w w2)->(execOp a.eval o).run S.P w2 = .ok (.value v) w2
theorem zhE {S:Sig} (hS:SigOk S) {T:Nat} {vx vi:Value} {K:Value->Prop} (h:zeR (TT.get S.τ T) vx vi K) :
  ∃ v,K v/\∀ w,(Instr.indexAt T vx vi).run S.P w = .ok v w:=by
 unfold zeR at h
 split at h
 ·rename_i e esz _ _ _ _ ht;obtain⟨_,d,hd,_,hk⟩:=hS.ty _ _ ht;obtain⟨rfl,he,hn⟩:=hk
  split at h
  ·rename_i b o len cap;obtain⟨k,j,rfl,hj,hg⟩:=zfy h;refine⟨_,hg,fun w=>?_⟩;simp [Instr.indexAt,asIntOf,Uv hd,za5 hn he,hj,zbC]
  ·exact h.elim
 ·rename_i n e esz eagg _ _ _ _ ht;obtain⟨_,d,hd,_,hk⟩:=hS.ty _ _ ht;obtain⟨rfl,he,_,hn⟩:=hk
  split at h
  ·rename_i b o;obtain⟨k,j,rfl,hj,hg⟩:=zfy h;refine⟨_,hg,fun w=>?_⟩;simp [Instr.indexAt,asIntOf,Uv hd,za5 hn he,hj,zbC,Instr.sureAddr]
  ·exact h.elim
 ·exact h.elim
theorem zlK {S:Sig} (hS:SigOk S) {T:Nat} {vx:Value} {lo hi:Option Value} {K:Value->Prop} (h:zlL (TT.get S.τ T) vx lo hi K) :
  ∃ v,K v/\∀ w,(Instr.sliceAt T vx lo hi none).run S.P w = .ok v w:=by
 unfold zlL at h
 split at h
 ·rename_i e esz _ _ _ _ ht;obtain⟨_,d,hd,_,hk⟩:=hS.ty _ _ ht;obtain⟨rfl,he,hn⟩:=hk
  split at h
  ·rename_i base len cap;obtain⟨l,hh,hg,hr⟩:=zbD (P:=S.P) (isSlice:=true) h;refine⟨_,hg,fun w=>?_⟩;simp only [Instr.sliceAt,Ga,Uv hd,Qa,Instr.slice,hr w,za5 hn he w,Gb,je]
  ·exact h.elim
 ·rename_i n e esz eagg _ _ _ _ ht;obtain⟨_,d,hd,_,hk⟩:=hS.ty _ _ ht;obtain⟨rfl,he,_,hn⟩:=hk
  split at h
  ·rename_i a;obtain⟨l,hh,hg,hr⟩:=zbD (P:=S.P) (isSlice:=false) h;refine⟨_,hg,fun w=>?_⟩;simp only [Instr.sliceAt,Ga,Uv hd,Qa,hr w,za5 hn he w,Gb,Instr.sureAddr,je]
   split <;> simp_all
  ·exact h.elim
 ·rename_i _ _ _ _ ht;obtain⟨_,d,hd,_,hk⟩:=hS.ty _ _ ht;obtain rfl:=hk
  split at h
  ·rename_i s;obtain⟨l,hh,hg,hr⟩:=zbD (P:=S.P) (isSlice:=false) h;refine⟨_,hg,fun w=>?_⟩;simp only [Instr.sliceAt,Ga,Uv hd,Qa,Instr.slice,hr w,Gb,Option.isSome_none,Kt,Gt]
  ·exact h.elim
 ·exact h.elim
theorem zgw {S:Sig} (hS:SigOk S) {T f:Nat} {g:Nat->Nat->Bool->Prop} (h:zjx (TT.get S.τ T) f g) :
  ∃ (F:Array Field) (fd:Field),S.P.underlying T=some (.struct F)/\F[f]?=some fd/\g fd.offset (S.P.cellsOf fd.type) (((S.P.underlying fd.type).map zfM).getD false)/\zgz S.P fd.type:=by
 unfold zjx at h
 split at h
 ·rename_i fs _ _ _ _ ht;obtain⟨_,d,hd,_,hk⟩:=hS.ty _ _ ht;obtain⟨F,rfl,rfl,hn⟩:=hk
  split at h
  ·rename_i off sz agg hf;rw [KU] at hf
   cases hF:F.toList[f]? with
   | none=>rw [hF] at hf;simp at hf
   | some fd =>
    rw [hF] at hf;simp only [Uf,KZ,UK] at hf;obtain⟨rfl,rfl,rfl⟩:=hf;exact⟨F,fd,hd,by simpa using hF,h,hn fd (JY hF)⟩
  ·exact h.elim
 ·exact h.elim
theorem zgm {S:Sig} (hS:SigOk S) {E:Env} {o:Oper} {w:Wd} {K:Value->Prop} (h:zpN S E o.op w K):∃ v,K v/\zvk S E o w v:=by
 obtain⟨dst,op,type,pos,after,guard⟩:=o
 cases op <;> simp only [zpN] at h
 case move x =>
  obtain⟨v,hv,hk⟩:=zx h;exact⟨v,hk,fun a ha w2 _=>by simp [execOp,ha.eval hv]⟩
 case assign x =>
  obtain⟨v,hv,hk⟩:=zx h;exact⟨v,hk,fun a ha w2 _=>by simp [execOp,ha.eval hv]⟩
 case pick c x y =>
  replace h:=zx h;obtain⟨vc,hc,h⟩:=h;replace h:=zx h;obtain⟨va,hx,h⟩:=h;replace h:=zx h;obtain⟨vb,hy,h⟩:=h
  split at h
  ·rename_i t;refine⟨_,h,fun a ha w2 _=>?_⟩;simp only [execOp,ha.eval hc,ha.eval hx,ha.eval hy,asBool,Ga,Gb,Qa]
   cases t <;> rfl
  ·exact h.elim
 case binOp op T x y yt =>
  replace h:=zx h;obtain⟨vx,hx,h⟩:=h;replace h:=zx h;obtain⟨vy,hy,h⟩:=h;obtain⟨v,hk,hr⟩:=zq4 h;refine⟨v,hk,fun a ha w2 _=>?_⟩;simp only [execOp,ha.eval hx,ha.eval hy];rw [Ga,hr w2];rfl
 case unOp op T x =>
  replace h:=zx h;obtain⟨v,hv,h⟩:=h
  split at h
  ·exact⟨_,h,fun a ha w2 _=>by simp [execOp,ha.eval hv,Op.unary]⟩
  ·obtain⟨r,e,hk⟩:=h;exact⟨_,hk,fun a ha w2 _=>by simp only [Int.zero_sub] at e;simp [execOp,ha.eval hv,Op.unary,Op.intArith,e]⟩
  ·obtain⟨u,hu,hk⟩:=h;exact⟨u,hk,fun a ha w2 _=>by simp only [execOp,ha.eval hv];rw [Ga,hu w2];rfl⟩
 case convert s d x =>
  replace h:=zx h;obtain⟨v,hv,h⟩:=h
  split at h
  ·rename_i hs hd;obtain⟨_,ds,hds,_⟩:=hS.ty _ _ hs;obtain⟨_,dd,hdd,_,hk⟩:=hS.ty _ _ hd;obtain rfl:=hk;obtain⟨r,e,hk⟩:=h;refine⟨_,hk,fun a ha w2 _=>?_⟩;simp only [execOp,ha.eval hv,Ga,convert,Uv hds,Uv hdd,Qa,Conv.intToInt,Gb,e]
  ·obtain⟨u,hu,hk⟩:=h;exact⟨u,hk,fun a ha w2 hb=>by simp only [execOp,ha.eval hv];rw [Ga,hu w2 (hb.resolve_left (by simp [isN]))];rfl⟩
 case field T x f =>
  replace h:=zx h;obtain⟨v,hv,h⟩:=h;obtain⟨F,fd,hu,hf,h,hn⟩:=zgw hS h
  split at h
  ·rename_i cs;obtain⟨v',hk,hr⟩:=ziy h rfl rfl hn;refine⟨v',hk,fun a ha w2 _=>?_⟩;simp only [execOp,ha.eval hv,Ga,Instr.field,Uv hu,Qa,hf,asAgg,Gb,hr w2]
  ·exact h.elim
 case index T x i =>
  replace h:=zx h;obtain⟨vx,hx,h⟩:=h;replace h:=zx h;obtain⟨vi,hi,h⟩:=h
  split at h
  ·rename_i n e esz eagg _ _ _ _ cs ht;obtain⟨_,d,hd,_,hk⟩:=hS.ty _ _ ht;obtain⟨rfl,he,hag,hn⟩:=hk;obtain⟨k,j,rfl,hj,hg⟩:=zfy h;obtain⟨v',hk,hr⟩:=ziy hg hag he hn;refine⟨v',hk,fun a ha w2 _=>?_⟩;have h1:(0:Int)<=(j:Int)/\(j:Int)<(n:Int):=⟨by omega,by omega⟩;simp only [execOp,ha.eval hx,ha.eval hi,Ga,Instr.index,asIntOf,Gb,Uv hd,Qa,h1,and_self,Gx,za5 hn he,KL,hr w2]
  ·rename_i s ht;obtain⟨_,d,hd,_,hk⟩:=hS.ty _ _ ht;obtain rfl:=hk;obtain⟨k,j,rfl,hj,u,hu,hg⟩:=zfy h;refine⟨_,hg,fun a ha w2 _=>?_⟩;have hu':s[j]?=some u:=by
    have h2:s.data[j]?=some u:=(by simpa using hu);obtain⟨hlt,e⟩:=Jk.1 h2;rw [getElem?_pos s j hj];exact Gs some e
   simp [execOp,ha.eval hx,ha.eval hi,Instr.index,asIntOf,Uv hd,hu']
  ·exact h.elim
 case fieldAddr T x f =>
  replace h:=zx h;obtain⟨v,hv,h⟩:=h;obtain⟨F,fd,hu,hf,h,hn⟩:=zgw hS h
  split at h
  ·exact h.elim
  ·rename_i hz;have hz':S.P.cellsOf fd.type≠0:=fun e=>by rw [e] at hz;simp at hz
   split at h
   ·rename_i b o;refine⟨_,h,fun a ha w2 _=>?_⟩;simp only [execOp,ha.eval hv,Ga,Instr.fieldAt,Uv hu,Qa,hf,Gb,Instr.sureAddr,fieldPlace,za5 hn rfl w2,hz',Gt,zbC]
   ·exact h.elim
 case indexAddr T x i =>
  replace h:=zx h;obtain⟨vx,hx,h⟩:=h;replace h:=zx h;obtain⟨vi,hi,h⟩:=h;obtain⟨v,hk,hr⟩:=zhE hS h;exact⟨v,hk,fun a ha w2 _=>by simp only [execOp,ha.eval hx,ha.eval hi];rw [Ga,hr w2];rfl⟩
 case slice T x lo hi mx =>
  replace h:=zx h;obtain⟨vx,hx,h⟩:=h;have oe:∀ {o:Option Operand} {f:Option Value->Prop},zjW E o f->∃ ov,f ov/\∀ a,Agrees S a E->o.map a.eval=ov:=by
   intro o f h
   cases o with
   | none=>exact⟨none,h,fun _ _=>rfl⟩
   | some x=>obtain⟨v,hv,hf⟩:=zx h;exact⟨some v,hf,fun a ha=>by simp [ha.eval hv]⟩
  obtain⟨l,h,hl⟩:=oe h;obtain⟨hh,h,hhh⟩:=oe h
  split at h
  ·obtain⟨v,hk,hr⟩:=zlK hS h;exact⟨v,hk,fun a ha w2 _=>by simp only [execOp,ha.eval hx,hl a ha,hhh a ha,Option.map_none];rw [Ga,hr w2];rfl⟩
  ·exact h.elim
 case lookup T x i ok =>
  replace h:=zx h;obtain⟨vx,hx,h⟩:=h;replace h:=zx h;obtain⟨vi,hi,u,hu,hk⟩:=h;exact⟨u,hk,fun a ha w2 hb=>by simp only [execOp,ha.eval hx,ha.eval hi];rw [Ga,hu w2 (hb.resolve_left (by simp [isN]))];rfl⟩
 case build T ps =>
  obtain⟨vs,h,hvs⟩:=zbg (S:=S) h;have e:∀ a,Agrees S a E->(ps.map fun (i,x)=>(i,a.eval x)).toList=zgA ps.toList vs:=fun a ha=>by
   rw [<- hvs a ha];simp only [Qf,UM];generalize ps.toList=l
   induction l with
   | nil=>rfl
   | cons p r ih=>obtain⟨i,x⟩:=p;simp only [UF,Ke,zgA,ih]
  unfold zq1 at h
  split at h
  ·rename_i fs _ _ _ z ht;obtain⟨⟨inf,hi,_,_,hzz⟩,d,hd,_,hk⟩:=hS.ty _ _ ht;obtain⟨F,rfl,rfl,hkn⟩:=hk;obtain⟨zv,hzv,hzc⟩:=hzz z rfl;obtain⟨cells,hf,hk⟩:=h;refine⟨_,hk,fun a ha w2 _=>?_⟩;have hzr:(zeroValue T).run S.P w2 = .ok zv w2:=by simp [zeroValue,typeInfo,hi,hzv]
   have hpl:(F.mapM fun f=>do pure (f.offset,<- sizeOf f.type):Sem (Array (Nat×Nat))).run S.P w2 = .ok (F.map fun f=>(f.offset,S.P.cellsOf f.type)) w2:=by
    rw [Array.mapM_eq_mapM_toList,Sem.run_map];have key:∀ l:List Field,(∀ f∈l,zgz S.P f.type)->(l.mapM fun f=>do pure (f.offset,<- sizeOf f.type):Sem (List (Nat×Nat))).run S.P w2 = .ok (l.map fun f=>(f.offset,S.P.cellsOf f.type)) w2:=by
     intro l
     induction l with
     | nil=>intro _;rfl
     | cons f r ih =>
      intro hl;simp only [Uq,Ga,za5 (hl f Kz) rfl w2,Qa,Gb,ih (fun g hg=>hl g (JW _ hg)),UF]
    rw [key F.toList hkn];simp only [Qa];congr 1;rw [<- Qe];simp
   have hfl:=zfD _ _ _ hf;have hplace:(fun i=>(F.map fun f=>(f.offset,S.P.cellsOf f.type))[i]?)=zfU (F.toList.map fun f=>(f.offset,S.P.cellsOf f.type,((S.P.underlying f.type).map zfM).getD false)):=by
    funext i;simp only [zfU,KU,Array.getElem?_map,Array.getElem?_toList]
    cases F[i]? <;> rfl
   simp only [execOp,Ga,Instr.build,hzr,Qa,Uv hd,hpl];rw [hplace,e a ha];have hz2:zv.cells=z.toArray:=by rw [<- hzc]
   rw [hz2,hfl];rfl
  ·rename_i n e0 esz eagg _ _ _ z ht;obtain⟨⟨inf,hi,_,_,hzz⟩,d,hd,_,hk⟩:=hS.ty _ _ ht;obtain⟨rfl,he,_,hkn⟩:=hk;obtain⟨zv,hzv,hzc⟩:=hzz z rfl;obtain⟨cells,hf,hk⟩:=h;refine⟨_,hk,fun a ha w2 _=>?_⟩;have hzr:(zeroValue T).run S.P w2 = .ok zv w2:=by simp [zeroValue,typeInfo,hi,hzv]
   have hfl:=zfD _ _ _ hf;simp only [execOp,Ga,Instr.build,hzr,Qa,Uv hd,za5 hkn he w2];rw [e a ha];have hz2:zv.cells=z.toArray:=by rw [<- hzc]
   rw [hz2,hfl];rfl
  ·exact h.elim
 case extract t i =>
  replace h:=zx h;obtain⟨v,hv,h⟩:=h
  split at h
  ·rename_i vs
   split at h
   ·rename_i u hu;refine⟨_,h,fun a ha w2 _=>?_⟩;have hu':vs[i]?=some u:=(by simpa using hu);simp [execOp,ha.eval hv,Instr.extract,hu']
   ·exact h.elim
  ·exact h.elim
 case makeFunc fn first captured =>
  obtain⟨fs,h,hf⟩:=zbg (S:=S) h;obtain⟨cs,h,hc⟩:=zbg (S:=S) h;refine⟨_,h,fun a ha w2 _=>?_⟩;have e1:first.map a.eval=fs.toArray:=by rw [<- hf a ha,<- Qf]
  have e2:captured.map a.eval=cs.toArray:=by rw [<- hc a ha,<- Qf]
  simp [execOp,Instr.makeFunc,e1,e2]
 case nilCheck x =>
  replace h:=zx h;obtain⟨v,hv,h⟩:=h
  split at h
  ·exact⟨_,h,fun a ha w2 _=>by simp [execOp,ha.eval hv]⟩
  ·exact⟨_,h,fun a ha w2 _=>by simp [execOp,ha.eval hv]⟩
  ·exact h.elim
 case load T x =>
  replace h:=zx h;obtain⟨v,hv,h⟩:=h
  split at h
  ·split at h
   ·rename_i sz _ _ ht;obtain⟨vs,hl,hc,_,hk⟩:=h;refine⟨_,hk,fun a ha w2 hb=>?_⟩;replace hb:=hb.resolve_left (by simp [isN]);simp only [execOp,ha.eval hv,Ga,Instr.loadAt,Instr.sureAddr,Gb,Qa,zgq (hS.ty _ _ ht) rfl hl (zt hb hc)]
   ·rename_i _ _ _ _ ht;obtain⟨u,hc,hk⟩:=h;refine⟨_,hk,fun a ha w2 hb=>?_⟩;replace hb:=hb.resolve_left (by simp [isN]);simp only [execOp,ha.eval hv,Ga,Instr.loadAt,Instr.sureAddr,Gb,Qa,zgp (hS.ty _ _ ht) rfl (zdp hb hc)]
   ·exact h.elim
  ·exact h.elim
 case call c =>
  obtain⟨callee,args,argTypes⟩:=c
  split at h
  ·rename_i hc;dsimp only at hc;subst hc
   split at h
   ·rename_i x T hx hT;have ex:args = #[x]:=(by rw [<- Qe];simpa using hx);have eT:argTypes = #[T]:=(by rw [<- Qe];simpa using hT);subst ex eT;replace h:=zx h;obtain⟨v,hv,h⟩:=h
    split at h
    ·rename_i e esz _ _ _ _ a n c ht;obtain⟨_,d,hd,_,hk⟩:=hS.ty _ _ ht;obtain⟨rfl,_⟩:=hk;exact⟨_,h,fun a ha w2 _=>by simp [execOp,resolve,invoke,builtin,Builtin.len_,ha.eval hv,Uv hd,goInt]⟩
    ·rename_i _ _ _ _ s ht;obtain⟨_,d,hd,_,hk⟩:=hS.ty _ _ ht;obtain rfl:=hk;exact⟨_,h,fun a ha w2 _=>by simp [execOp,resolve,invoke,builtin,Builtin.len_,ha.eval hv,Uv hd,goInt]⟩
    ·rename_i n e esz eagg _ _ _ _ ht;obtain⟨_,d,hd,_,hk⟩:=hS.ty _ _ ht;obtain⟨rfl,_⟩:=hk;refine⟨_,h,fun a ha w2 _=>?_⟩;simp [execOp,resolve,invoke,builtin,Builtin.len_,ha.eval hv,Uv hd,goInt]
    ·exact h.elim
   ·exact h.elim
  ·exact h.elim
def NN:Nat:=1000
def CallR (P:Program) (g:Nat) (args:Array Value) (w:Wd) (K:Value->Wd->Prop) (KP:List PanicEntry->Wd->Prop):Prop :=
 Calls P g args w fun e w'=>match e with
  | .returned v=>K v w'
  | .panicked ch=>KP ch w'
  | .outgrown=>False
theorem CallR.mk {P:Program} {g:Nat} {args:Array Value} {w:Wd} {K:Value->Wd->Prop} {KP:List PanicEntry->Wd->Prop} {R:Ending->Wd->Prop}
  (h:Calls P g args w R) (k:∀ e w',R e w'->∃ v,e = .returned v/\K v w'):CallR P g args w K KP :=
 h.mono fun e w' r=>by obtain⟨v,rfl,hk⟩:=k e w' r;exact hk
def YieldR (P:Program) (l:Nat) (args:Array Value) (w:Wd) (K:Value->Wd->Prop):Prop :=
 YieldAt (FR none) (NN-1) P l args w fun e w'=>match e with
  | .returned v=>K v w'
  | _=>False
def jP (S:Sig) (g:Nat):Bool:=Nat.ble S.lo g&&Nat.blt g S.hi&&zkx g S.no
def zny (S:Sig) (vf:Value) (vs:List Value) (w:Wd) (K:Value->Wd->Prop) (KP:List PanicEntry->Wd->Prop):Prop :=
 match vf with
 | .func (.func g) first captured=>(match jP S g with
  | true=>CallR S.P g (first.toList++vs++captured.toList).toArray w K KP
  | false=>False)
 | .func (.yield l) first _=>YieldR S.P l (first.toList++vs).toArray w K
 | .func fn first captured=>∃ g args,(invoke (.fn fn captured) (first.toList++vs).toArray).run S.P w = .ok (.enter g args) w/\CallR S.P g args w K KP
 | _=>False
def zll (S:Sig) (b:Builtin) (argTypes:Array TypeId) (type:TypeId) (vs:List Value) (w:Wd) (K:Value->Wd->Prop) (KP:List PanicEntry->Wd->Prop):Prop :=
 match b with
 | .append=>SatR ((Builtin.append_ argTypes type vs.toArray).run S.P w) K
 | .copy=>SatR ((Builtin.copy_ argTypes type vs.toArray).run S.P w) K
 | .cap=>SatR ((Builtin.cap_ argTypes type vs.toArray).run S.P w) K
 | .len=>SatR ((Builtin.len_ argTypes type vs.toArray).run S.P w) K
 | .min=>SatR ((Builtin.min_ argTypes type vs.toArray).run S.P w) K
 | .max=>SatR ((Builtin.max_ argTypes type vs.toArray).run S.P w) K
 | .delete=>SatR ((Builtin.delete_ argTypes type vs.toArray).run S.P w) K
 | .clear=>SatR ((Builtin.clear_ argTypes type vs.toArray).run S.P w) K
 | .panic=>∃ v w',(Instr.panic (vs.toArray.getD 0 .nilIface)).run S.P w = .halt (.panic v) w'/\KP [{ v,recovered:=false }] w'
 | _=>False
def zsO (S:Sig) (E:Env) (o:Oper) (w:Wd) (K:Value->Wd->Prop) (KP:List PanicEntry->Wd->Prop):Prop :=
 match o.op with
 | .alloc T=>(match TT.get S.τ T with
  | some { zero:=some z,.. }=>K (.pointer (some ⟨w.heap.size,0,none⟩)) (w.alloc (.cells z.toArray T))
  | _=>False)
 | .box T x=>zZ E x fun v=>K (.pointer (some ⟨w.heap.size,0,none⟩)) (w.alloc (.cells v.cells T))
 | .buildSlice T n ps=>zg2 E (ps.toList.map (·.2)) fun vs=>(match TT.get S.τ T with
  | some { kind := .slice e esz,.. }=>(match TT.get S.τ e with
   | some { zero:=some z,.. }=>(n*esz<=16777216/\0<esz/\z.length=esz)/\∃ cells:List Value,
     zdx (fun i=>some (i*esz,esz)) (zcE z n) (zgA ps.toList vs)=some cells /\
     K (.slice (some ⟨w.heap.size,0,none⟩) n n) (w.alloc (.cells cells.toArray e))
   | _=>False)
  | _=>False)
 | .store T a x=>zZ E a fun va=>zZ E x fun vx=>(match va with
  | .pointer (some p)=>SatR ((storeVar T p vx).run S.P w) fun _ w'=>K undef w'
  | _=>False)
 | .makeSlice T l c=>zZ E l fun vl=>zZ E c fun vc=>SatR ((Instr.makeSlice T vl vc).run S.P w) K
 | .makeMap T r=>zjW E r fun vr=>SatR ((Instr.makeMap T vr).run S.P w) K
 | .makeInterface T x=>zZ E x fun v=>SatR ((Instr.makeInterface T v).run S.P w) K
 | .mapUpdate T m k x=>zZ E m fun vm=>zZ E k fun vk=>zZ E x fun vx=>SatR ((Instr.mapUpdate T vm vk vx).run S.P w) fun _ w'=>K undef w'
 | .insert T m k x=>zZ E m fun vm=>zZ E k fun vk=>zZ E x fun vx=>SatR ((Instr.mapUpdate T vm vk vx).run S.P w) fun _ w'=>K undef w'
 | .mapEntry T m k=>zZ E m fun vm=>zZ E k fun vk=>SatR ((Instr.mapEntry T vm vk).run S.P w) K
 | .entryStore T m s x=>zZ E m fun vm=>zZ E s fun vs=>zZ E x fun vx=>SatR ((Instr.entryStore T vm vs vx).run S.P w) fun _ w'=>K undef w'
 | .range T x=>zZ E x fun v=>SatR ((Instr.range T v).run S.P w) K
 | .next it s=>zZ E it fun v=>SatR ((Instr.next v s o.type).run S.P w) K
 | .entry it=>zZ E it fun v=>SatR ((Instr.entry v).run S.P w) K
 | .typeAssert x T a ok=>zZ E x fun v=>SatR ((Instr.typeAssert v T a ok).run S.P w) K
 | .nilCheck x=>zZ E x fun v=>SatR ((execOp (fun _=>v) { o with op := .nilCheck (.tmp 0) }).run S.P w) fun nx w'=>(match nx with
  | .value u=>K u w'
  | _=>False)
 | .panic x=>zZ E x fun v=>∃ u w',(Instr.panic v).run S.P w = .halt (.panic u) w'/\KP [{ v:=u,recovered:=false }] w'
 | .call c=>zg2 E c.args.toList fun vs=>(match c.callee with
  | .value f=>zZ E f fun vf=>zny S vf vs w K KP
  | .builtin b=>zll S b c.argTypes o.type vs w K KP
  | .invoke r m=>zZ E r fun vr=>∃ g args,(callMethod vr m vs.toArray).run S.P w = .ok (.enter g args) w/\CallR S.P g args w K KP)
 | _=>False
theorem zdo {P:Program} {r:Option Nat} {n g:Nat} {args:Array Value} {w:Wd} {R:Ending->Wd->Prop} (h:Calls P g args w R):CallsIn (FR r) n P g args w R:=by
 have h1:CallsIn Fence.wide n P g args w R:=callsIn_wide.2 h;exact⟨trivial,fun cs _=>h1.2 cs (room_wide _)⟩
theorem SatR.elim {α:Type} {r:Result α} {K:α->Wd->Prop} (h:SatR r K):∃ v w',r = .ok v w'/\K v w':=h
section
variable {S:Sig} {E:Env} {o:Oper} {w:Wd} {K:Value->Wd->Prop} {KP:List PanicEntry->Wd->Prop} {a:Act} {n:Nat}
 {next:Act->Wd->Prop} {Q:Exit->Act->Wd->Prop}
def UponE (S:Sig) (n:Nat) (o:Oper) (a:Act) (w:Wd) (next:Act->Wd->Prop) (Q:Exit->Act->Wd->Prop):Prop :=
 match (execOp a.eval o).run S.P w with
 | .ok (.value v) w'=>next (a.put o.dst v) w'
 | .ok .skip w'=>next (a.put o.dst undef) w'
 | .ok (.enter f args) w'=>CallsIn (FR S.r) (n-1) S.P f args w' fun
   | .returned v,w''=>next (a.put o.dst v) w''
   | .panicked chain,w''=>Q (.panic chain) a w''
   | .outgrown,_=>False
 | .ok (.round l f tmps assign body) w'=>RoundIn (FR S.r) (n-1) S.P l f tmps assign body w' fun
   | .returned v,w''=>next (a.put o.dst v) w''
   | .panicked chain,w''=>Q (.panic chain) a w''
   | .outgrown,_=>False
 | .halt (.panic v) w'=>Q (.panic [{ v,recovered:=false }]) a w'
 | _=>False
theorem UponE.wpIn (hd:∀ c,o.op ≠ .defer c) (h:UponE S n o a w next Q):o.wpIn (FR S.r) n S.P a w next Q:=by
 refine⟨fun _ _=>trivial,?_⟩;rw [Oper.semAt_eq _ _ _ hd];unfold UponE at h
 split at h
 case h_1 hr=>rw [hr];exact h
 case h_2 hr=>rw [hr];exact h
 case h_3 hr =>
  rw [hr,Oper.uponIn_enter];exact⟨fun h=>by simp [FR] at h,h.mono fun e w'' he=>by cases e <;> first | exact he | exact he.elim⟩
 case h_4 hr =>
  rw [hr,Oper.uponIn_round];exact⟨fun h=>by simp [FR] at h,h.mono fun e w'' he=>by cases e <;> first | exact he | exact he.elim⟩
 case h_5 hr=>rw [hr];exact h
 case h_6=>exact h.elim
theorem qs {v:Value} {w':Wd} (_hd:∀ c,o.op ≠ .defer c) (hr:(execOp a.eval o).run S.P w = .ok (.value v) w') (hk:next (a.put o.dst v) w') :
  UponE S n o a w next Q:=by unfold UponE;rw [hr];exact hk
theorem zc4 {w':Wd} (_hd:∀ c,o.op ≠ .defer c) (hr:(execOp a.eval o).run S.P w = .ok .skip w') (hk:next (a.put o.dst undef) w') :
  UponE S n o a w next Q:=by unfold UponE;rw [hr];exact hk
theorem zg0 {v:Value} {w':Wd} (_hd:∀ c,o.op ≠ .defer c) (hr:(execOp a.eval o).run S.P w = .halt (.panic v) w') (hk:Q (.panic [{ v,recovered:=false }]) a w') :
  UponE S n o a w next Q:=by unfold UponE;rw [hr];exact hk
theorem zez {g:Nat} {args:Array Value} {w':Wd} (_hd:∀ c,o.op ≠ .defer c) (hr:(execOp a.eval o).run S.P w = .ok (.enter g args) w') (hc:CallR S.P g args w' K KP)
  (hn:∀ v w',K v w'->next (a.put o.dst v) w') (hp:∀ ch w',KP ch w'->Q (.panic ch) a w') :
  UponE S n o a w next Q:=by
 unfold UponE;rw [hr];refine zdo (hc.mono fun e w'' he=>?_)
 cases e with
 | returned v=>exact hn _ _ he
 | panicked ch=>exact hp _ _ he
 | outgrown=>exact he.elim
theorem zcq {P:Program} {r r':Option Nat} {n n' l g:Nat} {tmps:Array Value} {assign body:Code} {w:Wd} {R:Ending->Wd->Prop} (h:RoundIn (FR r) n P l g tmps assign body w R) :
  RoundIn (FR r') n' P l g tmps assign body w R :=
 ⟨trivial,fun c cs _=>h.2 c cs (fun d hd=>by simp [FR] at hd)⟩
theorem zeV (hS:SigOk S) (h:zsO S E o w K KP) (ha:Agrees S a E)
  (hn:∀ v w',K v w'->next (a.put o.dst v) w') (hp:∀ ch w',KP ch w'->Q (.panic ch) a w'):UponE S n o a w next Q:=by
 obtain⟨dst,op,type,pos,after,guard⟩:=o;have oe:∀ {o:Option Operand} {f:Option Value->Prop},zjW E o f->∃ ov,f ov/\o.map a.eval=ov:=by
  intro o f h
  cases o with
  | none=>exact⟨none,h,rfl⟩
  | some x=>obtain⟨v,hv,hf⟩:=zx h;exact⟨some v,hf,by simp [ha.eval hv]⟩
 cases op <;> simp only [zsO] at h
 case alloc T =>
  split at h
  ·rename_i z ht;obtain⟨⟨inf,hi,_,_,hzz⟩,_⟩:=hS.ty _ _ ht;obtain⟨v,hz,hc⟩:=hzz z rfl;refine qs (fun c=>by simp) ?_ (hn _ _ h);have hzv:(zeroValue T).run S.P w = .ok v w:=by simp [zeroValue,typeInfo,hi,hz]
   have e:v.cells=z.toArray:=by rw [<- hc]
   simp [execOp,Instr.alloc,hzv,newVar,newRow,newObj,Sem.run,e]
  ·exact h.elim
 case box T x =>
  obtain⟨v,hv,h'⟩:=zx h;refine qs (fun c=>by simp) ?_ (hn _ _ h');simp [execOp,Instr.box,ha.eval hv,newVar,newRow,newObj,Sem.run]
 case buildSlice T k ps =>
  obtain⟨vs,h',hvs⟩:=zbg (S:=S) h;have e:(ps.map fun (i,x)=>(i,a.eval x)).toList=zgA ps.toList vs:=by
   rw [<- hvs a ha];simp only [Qf,UM];generalize ps.toList=l
   induction l with
   | nil=>rfl
   | cons p r ih=>obtain⟨i,x⟩:=p;simp only [UF,Ke,zgA,ih]
  split at h'
  ·rename_i e1 esz _ _ _ _ ht
   split at h'
   ·rename_i z hte;obtain⟨_,d,hd,_,hk⟩:=hS.ty _ _ ht;obtain⟨rfl,he,hkn⟩:=hk;obtain⟨⟨inf,hi,_,_,hzz⟩,_⟩:=hS.ty _ _ hte;obtain⟨v,hz,hc⟩:=hzz z rfl;obtain⟨⟨hle,hpos,hlen⟩,cells,hf,hk⟩:=h';have hf:=zfD _ _ _ hf;subst hlen;rw [<- zmL z hpos k] at hf;refine qs (fun c=>by simp) ?_ (hn _ _ hk);have hzv:∀ w,(zeroValue e1).run S.P w = .ok v w:=(by intro w;simp [zeroValue,typeInfo,hi,hz]);have ec:v.cells=z.toArray:=(by rw [<- hc]);have hle':¬ (k*z.length > 2^24):=(by omega);simp only [execOp,Instr.buildSlice,Ga,Uv hd,Qa,za5 hkn he w,hle',Gt];by_cases h0:k*z.length=0
    ·rw [e];simp only [h0,Gx,Ga,Gb,Qa];rw [h0] at hf;have e0:(Array.map (fun x=>(#[]:Array Value)[x%(#[]:Array Value).size]!) (Array.range 0))=(Array.map (fun x=>z.toArray[x%z.toArray.size]!) (Array.range 0)):=(by simp);rw [e0,hf];simp [newRow,newObj,Sem.run]
    ·rw [e];simp only [h0,Gt,Ga,hzv,Qa,Gb,ec,hf];simp [newRow,newObj,Sem.run]
   ·exact h'.elim
  ·exact h'.elim
 case store T x y =>
  obtain⟨va,hva,h'⟩:=zx h;obtain⟨vx,hvx,h'⟩:=zx h'
  split at h'
  ·obtain⟨_,w',hr,hk⟩:=SatR.elim h';refine zc4 (fun c=>by simp) ?_ (hn _ _ hk);simp only [execOp,ha.eval hva,ha.eval hvx,Instr.storeAt,Instr.sureAddr,Ga,Gb,Qa,hr]
  ·exact h'.elim
 case makeSlice T l c =>
  obtain⟨vl,hl,h'⟩:=zx h;obtain⟨vc,hc,h'⟩:=zx h';obtain⟨v,w',hr,hk⟩:=SatR.elim h';refine qs (fun c=>by simp) ?_ (hn _ _ hk);simp only [execOp,ha.eval hl,ha.eval hc];rw [Ga,hr];rfl
 case makeMap T r =>
  obtain⟨vr,h',hvr⟩:=oe h;obtain⟨v,w',hr,hk⟩:=SatR.elim h';refine qs (fun c=>by simp) ?_ (hn _ _ hk);simp only [execOp,hvr];rw [Ga,hr];rfl
 case makeInterface T x =>
  obtain⟨vx,hx,h'⟩:=zx h;obtain⟨v,w',hr,hk⟩:=SatR.elim h';refine qs (fun c=>by simp) ?_ (hn _ _ hk);simp only [execOp,ha.eval hx];rw [Ga,hr];rfl
 case mapUpdate T m k x =>
  obtain⟨vm,hm,h'⟩:=zx h;obtain⟨vk,hk,h'⟩:=zx h';obtain⟨vx,hx,h'⟩:=zx h';obtain⟨v,w',hr,hkk⟩:=SatR.elim h';refine zc4 (fun c=>by simp) ?_ (hn _ _ hkk);simp only [execOp,ha.eval hm,ha.eval hk,ha.eval hx];rw [Ga,hr];rfl
 case insert T m k x =>
  obtain⟨vm,hm,h'⟩:=zx h;obtain⟨vk,hk,h'⟩:=zx h';obtain⟨vx,hx,h'⟩:=zx h';obtain⟨v,w',hr,hkk⟩:=SatR.elim h';refine zc4 (fun c=>by simp) ?_ (hn _ _ hkk);simp only [execOp,ha.eval hm,ha.eval hk,ha.eval hx];rw [Ga,hr];rfl
 case mapEntry T m k =>
  obtain⟨vm,hm,h'⟩:=zx h;obtain⟨vk,hk,h'⟩:=zx h';obtain⟨v,w',hr,hkk⟩:=SatR.elim h';refine qs (fun c=>by simp) ?_ (hn _ _ hkk);simp only [execOp,ha.eval hm,ha.eval hk];rw [Ga,hr];rfl
 case entryStore T m k x =>
  obtain⟨vm,hm,h'⟩:=zx h;obtain⟨vk,hk,h'⟩:=zx h';obtain⟨vx,hx,h'⟩:=zx h';obtain⟨v,w',hr,hkk⟩:=SatR.elim h';refine zc4 (fun c=>by simp) ?_ (hn _ _ hkk);simp only [execOp,ha.eval hm,ha.eval hk,ha.eval hx];rw [Ga,hr];rfl
 case range T x =>
  obtain⟨vx,hx,h'⟩:=zx h;obtain⟨v,w',hr,hk⟩:=SatR.elim h';refine qs (fun c=>by simp) ?_ (hn _ _ hk);simp only [execOp,ha.eval hx];rw [Ga,hr];rfl
 case next it s =>
  obtain⟨vx,hx,h'⟩:=zx h;obtain⟨v,w',hr,hk⟩:=SatR.elim h';refine qs (fun c=>by simp) ?_ (hn _ _ hk);simp only [execOp,ha.eval hx];rw [Ga,hr];rfl
 case entry it =>
  obtain⟨vx,hx,h'⟩:=zx h;obtain⟨v,w',hr,hk⟩:=SatR.elim h';refine qs (fun c=>by simp) ?_ (hn _ _ hk);simp only [execOp,ha.eval hx];rw [Ga,hr];rfl
 case typeAssert x T y ok =>
  obtain⟨vx,hx,h'⟩:=zx h;obtain⟨v,w',hr,hk⟩:=SatR.elim h';refine qs (fun c=>by simp) ?_ (hn _ _ hk);simp only [execOp,ha.eval hx];rw [Ga,hr];rfl
 case nilCheck x =>
  obtain⟨vx,hx,h'⟩:=zx h;obtain⟨nx,w',hr,hk⟩:=SatR.elim h'
  split at hk
  ·refine qs (fun c=>by simp) ?_ (hn _ _ hk);simp only [execOp,ha.eval hx];simpa only [execOp] using hr
  ·exact hk.elim
 case panic x =>
  obtain⟨vx,hx,u,w',hr,hk⟩:=zx h;refine zg0 (fun c=>by simp) ?_ (hp _ _ hk);simp only [execOp,ha.eval hx];rw [Ga,hr];rfl
 case call c =>
  obtain⟨callee,args,argTypes⟩:=c;obtain⟨vs,h',hvs⟩:=zbg (S:=S) h;have ev:args.map a.eval=vs.toArray:=by rw [<- hvs a ha,<- Qf]
  dsimp only at h'
  split at h'
  ·rename_i f;obtain⟨vf,hf,h'⟩:=zx h';unfold zny at h'
   split at h'
   ·rename_i g first captured
    split at h'
    ·rename_i hok;simp only [jP,bAT,Gl,Gm] at hok;refine zez (fun c=>by simp) ?_ h' hn hp;have e2:first++vs.toArray++captured=(first.toList++vs++captured.toList).toArray:=by
      rw [<- Qe];simp
     simp only [execOp,resolve,ev,ha.eval hf,Deferred.ofValue,Ga,Gb,Qa,invoke,e2];exact hS.call g hok.1.1 hok.1.2 hok.2 _ _
    ·exact h'.elim
   ·rename_i l first captured
    obtain⟨fn,tmps,assign,body,hy,hR⟩:=h';have e2:first++vs.toArray=(first.toList++vs).toArray:=by
     rw [<- Qe];simp
    have hr:(execOp a.eval ⟨dst,.call ⟨.value f,args,argTypes⟩,type,pos,after,guard⟩).run S.P w = .ok (.round l fn tmps assign body) w:=by
     simp only [execOp,resolve,ev,ha.eval hf,Deferred.ofValue,Ga,Gb,Qa,invoke,e2];exact hy
    unfold UponE;rw [hr];refine zcq (hR.mono fun e w'' he=>?_)
    cases e with
    | returned v=>exact hn _ _ he
    | panicked ch=>exact he.elim
    | outgrown=>exact he.elim
   ·rename_i fn first captured _ _
    obtain⟨g,args',hi,hc⟩:=h';refine zez (fun c=>by simp) ?_ hc hn hp;have e2:first++vs.toArray=(first.toList++vs).toArray:=by
     rw [<- Qe];simp
    simp only [execOp,resolve,ev,ha.eval hf,Deferred.ofValue,Ga,Gb,Qa,e2];exact hi
   ·exact h'.elim
  ·rename_i b;unfold zll at h'
   split at h'
   case h_9 =>
    obtain⟨u,w',hr,hk⟩:=h';refine zg0 (fun c=>by simp) ?_ (hp _ _ hk);simp only [execOp,resolve,ev,invoke,builtin,Ga,Gb,Qa,hr,Result.andThen_halt]
   case h_10=>exact h'.elim
   all_goals
    obtain⟨v,w',hr,hk⟩:=SatR.elim h';refine qs (fun c=>by simp) ?_ (hn _ _ hk);simp only [execOp,resolve,ev,invoke,builtin,Ga,Gb,Qa,hr]
  ·rename_i r m;obtain⟨vr,hvr,g,args',hi,hc⟩:=zx h';refine zez (fun c=>by simp) ?_ hc hn hp;have hx:(#[vr]++vs.toArray).extract 1 (#[vr]++vs.toArray).size=vs.toArray:=by
    rw [<- Qe];simp
   have h0:(#[vr]++vs.toArray)[0]?=some vr:=by simp
   simp only [execOp,resolve,ev,ha.eval hvr,Ga,Gb,Qa,invoke,h0,hx];exact hi
end
def zeP (τ : TT) (op : Op) : Bool :=
  match op with
  | .move _ | .assign _ | .pick .. | .binOp .. | .unOp .. | .convert .. | .field .. | .index .. | .fieldAddr .. | .indexAddr .. | .slice .. | .extract .. | .makeFunc .. | .nilCheck _ | .load .. | .lookup .. | .build .. => true
  | .call c => (match c.callee with
    | .builtin .len => (match c.argTypes.toList with
      | [T] => (match TT.get τ T with
        | some { kind := .map _ _, .. } => false
        | _ => true)
      | _ => true)
    | _ => false)
  | _ => false
def zib (i : Nat) : List Nat → Bool
  | [] => false
  | k :: r => match Nat.beq k i with
    | true => true
    | false => zib i r
def jB (op : Op) : Bool := match op with | .select .. | .defer .. | .go .. => false | _ => true
def PV (P : Program) (o : Oper) (a : Act) (w : Wd) (v : Value) : Prop := ∀ w2, (isN o.op = true ∨ Below w.heap.size w w2) → (execOp a.eval o).run P w2 = .ok (.value v) w2
def PQ (QP : List PanicEntry → Wd → Prop) : Exit → Act → Wd → Prop := fun ex _ w => match ex with
  | .panic ch => QP ch w
  | _ => False
def jz (S : Sig) (X : List Nat) (n : Nat) (QP : List PanicEntry → Wd → Prop) (ops : Array Oper) (i : Nat) (K : Act → Wd → Prop) (a : Act) (w : Wd) : Prop :=
  match ops[i]? with
  | none => K a w
  | some o => if Region.wanted o (yielded ops a.tmps) then
      (if zeP S.τ o.op then ∃ v, PV S.P o a w v ∧ K (a.put o.dst v) w
       else UponE S n o a w (fun a' w' => (zib i X = false → Below w.heap.size w w') ∧ K a' w') (PQ QP))
    else K (a.put o.dst undef) w
def zhu (S : Sig) (X : List Nat) (n : Nat) (QP : List PanicEntry → Wd → Prop) (ops : Array Oper) (K : Act → Wd → Prop) : List Nat → Act → Wd → Prop
  | [], a, w => K a w
  | i :: r, a, w => jz S X n QP ops i (zhu S X n QP ops K r) a w
section
variable {S : Sig} {X : List Nat} {n : Nat} {QP : List PanicEntry → Wd → Prop} {ops : Array Oper}
theorem zeA {o : Oper} {a a' : Act} {w : Wd} {next next' : Act → Wd → Prop} (he : execOp a'.eval o = execOp a.eval o)
    (hn : ∀ u w', next (a'.put o.dst u) w' → next' (a.put o.dst u) w') (h : UponE S n o a' w next (PQ QP)) : UponE S n o a w next' (PQ QP) := by
  unfold UponE at *
  rw [he] at h
  split at h
  · exact hn _ _ h
  · exact hn _ _ h
  · exact CallsIn.mono h fun e w'' he => by cases e <;> first | exact hn _ _ he | exact he
  · exact RoundIn.mono h fun e w'' he => by cases e <;> first | exact hn _ _ he | exact he
  · exact h
  · exact h
theorem zeD {i : Nat} {K K' : Act → Wd → Prop} {a : Act} {w : Wd} (h : ∀ a w, K a w → K' a w) (hh : jz S X n QP ops i K a w) : jz S X n QP ops i K' a w := by
  unfold jz at *
  split
  · rename_i ho; simp only [ho] at hh; exact h _ _ hh
  · rename_i o ho
    simp only [ho] at hh
    split
    · rename_i hw
      simp only [hw, Gx] at hh
      split
      · rename_i hp; simp only [hp, Gx] at hh; obtain ⟨v, h1, h2⟩ := hh; exact ⟨v, h1, h _ _ h2⟩
      · rename_i hp; simp only [hp, Kt, Gt] at hh; exact zeA rfl (fun u w' hk => ⟨hk.1, h _ _ hk.2⟩) hh
    · rename_i hw; simp only [hw] at hh; exact h _ _ hh
structure Indep (S : Sig) (X : List Nat) (ops : Array Oper) (k i : Nat) : Prop where
  h : ∀ ok oi, ops[k]? = some ok → ops[i]? = some oi → ok.apart ops oi = true ∧ zeP S.τ ok.op = true ∧ jB ok.op = true ∧ jB oi.op = true ∧ (zeP S.τ oi.op = true ∨ zib i X = false ∨ isN ok.op = true)
theorem zfY {op : Op} (h : jB op = true) : ∀ cs b, op ≠ .select cs b := fun cs b e => by subst e; simp [jB] at h
theorem zaY {op : Op} (h : jB op = true) : ∀ c, op ≠ .defer c := fun c e => by subst e; simp [jB] at h
theorem PV.below {P : Program} {o : Oper} {a : Act} {w w' : Wd} {v : Value} (h : PV P o a w v) (hb : isN o.op = true ∨ Below w.heap.size w w') : PV P o a w' v :=
  fun w2 h2 => h w2 (by rcases hb with hb | hb
                        · exact .inl hb
                        · exact h2.imp id (fun h2 => hb.trans (h2.mono hb.size)))
theorem zeC {k i : Nat} (hk : Indep S X ops k i) {K : Act → Wd → Prop} {a : Act} {w : Wd} (h : jz S X n QP ops k (jz S X n QP ops i K) a w) : jz S X n QP ops i (jz S X n QP ops k K) a w := by
  cases hok : ops[k]? with
  | none =>
    have e : ∀ K', jz S X n QP ops k K' = K' := fun K' => by funext a w; simp [jz, hok]
    rw [e] at h ⊢; exact h
  | some ok =>
    cases hoi : ops[i]? with
    | none =>
      have e : ∀ K', jz S X n QP ops i K' = K' := fun K' => by funext a w; simp [jz, hoi]
      rw [e] at h; rw [e]; exact h
    | some oi =>
      obtain ⟨hap, hp, hsk, hsi, hx⟩ := hk.h ok oi hok hoi
      obtain ⟨h1, h2, h3⟩ := Oper.apart_spec hap
      have core : ∀ v, ((Region.wanted ok (yielded ops a.tmps) = true ∧ PV S.P ok a w v) ∨ (Region.wanted ok (yielded ops a.tmps) = false ∧ v = undef)) →
          jz S X n QP ops i K (a.put ok.dst v) w → jz S X n QP ops i (jz S X n QP ops k K) a w := by
        intro v hv h
        have after : ∀ u w', (isN ok.op = true ∨ Below w.heap.size w w') → K ((a.put ok.dst v).put oi.dst u) w' → jz S X n QP ops k K (a.put oi.dst u) w' := by
          intro u w' hb hK
          unfold jz
          simp only [hok, hp, Gx]
          rw [wanted_put ok a oi.dst u h3]
          rw [Act.put_comm a v u h2] at hK
          rcases hv with ⟨hw, hpv⟩ | ⟨hw, rfl⟩
          · simp only [hw, Gx]
            refine ⟨v, fun w2 h2 => ?_, hK⟩
            rw [execOp_put ok (zfY hsk) a oi.dst u h3]
            exact (hpv.below hb) w2 h2
          · simp only [hw]; exact hK
        unfold jz at h ⊢
        simp only [hoi] at h ⊢
        rw [wanted_put oi a ok.dst v h1] at h
        split
        · rename_i hwi
          simp only [hwi, Gx] at h
          split
          · rename_i hpi
            simp only [hpi, Gx] at h
            obtain ⟨u, hu, hK⟩ := h
            refine ⟨u, fun w2 hb => ?_, after u w (.inr (Gj _ _)) hK⟩
            have := hu w2 hb
            rwa [execOp_put oi (zfY hsi) a ok.dst v h1] at this
          · rename_i hpi
            simp only [hpi, Kt, Gt] at h
            exact zeA (execOp_put oi (zfY hsi) a ok.dst v h1) (fun u w' hh => ⟨hh.1, after u w' ((hx.resolve_left hpi).elim (fun hm => .inr (hh.1 hm)) .inl) hh.2⟩) h
        · rename_i hwi
          simp only [hwi] at h
          exact after undef w (.inr (Gj _ _)) h
      have h' := h
      unfold jz at h
      simp only [hok, hp, Gx] at h
      cases hw : Region.wanted ok (yielded ops a.tmps) with
      | true =>
        simp only [hw, Gx] at h
        obtain ⟨v, hv, hK⟩ := h
        exact core v (.inl ⟨hw, hv⟩) hK
      | false =>
        simp only [hw] at h
        exact core undef (.inr ⟨hw, rfl⟩) h
theorem zgr {K : Act → Wd → Prop} {i : Nat} : ∀ (L : List Nat), L.Nodup → i ∈ L → (∀ k, [k, i].Sublist L → Indep S X ops k i) → ∀ (a : Act) (w : Wd), zhu S X n QP ops K L a w →
    jz S X n QP ops i (zhu S X n QP ops K (L.filter (· ≠ i))) a w
  | [], _, hi, _, _, _, _ => by simp at hi
  | k :: r, hn, hi, hind, a, w, h => by
    obtain ⟨hkr, hr⟩ := QX.1 hn
    by_cases hki : k = i
    · subst hki
      have e : (k :: r).filter (· ≠ k) = r := by
        rw [Qn]
        simp only [ne_eq, Qb, Gc, Kt, Gt]
        exact List.filter_eq_self.2 fun x hx => by simp; rintro rfl; exact hkr hx
      rw [e]
      exact h
    · have hir : i ∈ r := by
        cases hi with
        | head => exact GA rfl hki
        | tail _ h => exact h
      have e : (k :: r).filter (· ≠ i) = k :: r.filter (· ≠ i) := by
        rw [Qn]; simp [hki]
      rw [e]
      have hik : Indep S X ops k i := hind k (List.Sublist.cons_cons k (List.singleton_sublist.2 hir))
      have h2 : jz S X n QP ops k (jz S X n QP ops i (zhu S X n QP ops K (r.filter (· ≠ i)))) a w :=
        zeD (fun a w hh => zgr r hr hir (fun k' hs => hind k' (hs.cons k)) a w hh) h
      exact zeC hik h2
def ze1 (ops : Array Oper) : Nat → Nat → Nat → Bool
  | 0, _, _ => false
  | f + 1, k, i => match ops[i]? with
    | some o => o.after.toList.any fun e => Region.binds .any e && (Nat.beq e.on k || (Nat.blt k e.on && ze1 ops f k e.on))
    | none => false
theorem zc5 {L : Array Bool} (hc : ∀ j o, L.getD j false = true → ops[j]? = some o → ∀ e ∈ o.after, Region.binds .any e = true → L.getD e.on false = true) :
    ∀ (f k i : Nat) (o : Oper), ops[i]? = some o → (∀ e ∈ o.after, Region.binds .any e = true → L.getD e.on false = true) → ze1 ops f k i = true → L.getD k false = true
  | 0, _, _, _, _, _, h => by simp [ze1] at h
  | f + 1, k, i, o, ho, hl, h => by
    simp only [ze1, ho, Qk, Qh, QI, Array.mem_toList_iff] at h
    obtain ⟨e, he, hb, h⟩ := h
    rcases h with h | ⟨_, h⟩
    · have := JR h
      subst this
      exact hl e he hb
    · cases hj : ops[e.on]? with
      | none => cases f <;> simp [ze1, hj] at h
      | some oj => exact zc5 hc f k e.on oj hj (fun e' he' hb' => hc e.on oj (hl e he hb) hj e' he' hb') h
structure OrdOk (S : Sig) (X : List Nat) (ops : Array Oper) (L : List Nat) : Prop where
  nodup : L.Nodup
  mem : ∀ i, i ∈ L ↔ i < ops.size
  pair : ∀ k i, [k, i].Sublist L → (∃ f, ze1 ops f k i = true) ∨ Indep S X ops k i
  topo : ∀ i o e, ops[i]? = some o → e ∈ o.after → Region.binds .any e = true → [e.on, i].Sublist L
theorem zkA {x y : Nat} (hne : x ≠ y) : ∀ {L : List Nat}, L.Nodup → [x, y].Sublist L → [y, x].Sublist L → False
  | [], _, h, _ => by cases h
  | z :: r, hn, h, h' => by
    obtain ⟨hz, hr⟩ := QX.1 hn
    cases h with
    | cons _ h =>
      cases h' with
      | cons _ h' => exact zkA hne hr h h'
      | cons_cons _ h' => exact hz (h.subset (by simp))
    | cons_cons _ h =>
      cases h' with
      | cons _ h' => exact hz (h'.subset (by simp))
      | cons_cons _ h' => exact hne rfl
theorem zrx {o : Oper} {a : Act} {w : Wd} {next : Act → Wd → Prop} {Q : Exit → Act → Wd → Prop} (hQ : ∀ ch w, QP ch w → Q (.panic ch) a w) (h : UponE S n o a w next (PQ QP)) : UponE S n o a w next Q := by
  unfold UponE at *
  split at h
  · exact h
  · exact h
  · exact CallsIn.mono h fun e w'' he => by cases e <;> first | exact hQ _ _ he | exact he
  · exact RoundIn.mono h fun e w'' he => by cases e <;> first | exact hQ _ _ he | exact he
  · exact hQ _ _ h
  · exact h
theorem zcF {Q : Exit → Act → Wd → Prop} {i : Nat} {o : Oper} {K K' : Act → Wd → Prop} {a : Act} {w : Wd} (hsel : jB o.op = true) (ho : ops[i]? = some o)
    (hQ : ∀ ch w, QP ch w → Q (.panic ch) a w) (hnext : ∀ u w, K (a.put o.dst u) w → K' (a.put o.dst u) w) (h2 : jz S X n QP ops i K a w) : wpOpIn (FR S.r) n S.P ops Q i K' a w := by
  unfold wpOpIn
  unfold jz at h2
  simp only [ho] at h2 ⊢
  split
  · rename_i hw
    simp only [hw, Gx] at h2
    split at h2
    · obtain ⟨v, hv, hK⟩ := h2
      exact (qs (S := S) (Q := Q) (zaY hsel) (hv w (.inr (Gj _ _))) (hnext _ _ hK)).wpIn (zaY hsel)
    · have h3 : UponE S n o a w K' (PQ QP) := zeA rfl (fun u w' hh => hnext _ _ hh.2) h2
      exact (zrx hQ h3).wpIn (zaY hsel)
  · rename_i hw
    simp only [hw] at h2
    exact ⟨fun _ _ => trivial, hnext _ _ h2⟩
theorem zgy {Q : Exit → Act → Wd → Prop} {I : Act → Prop} (hI : ∀ a dst v, I a → I (a.put dst v)) (hQ : ∀ ch a w, I a → QP ch w → Q (.panic ch) a w) (hS : ∀ o, o ∈ ops → jB o.op = true) {L0 : List Nat} (hO : OrdOk S X ops L0) :
    ∀ (m : Nat) (L : List Nat) (listed : Array Bool) (a : Act) (w : Wd), L.length = m → L.Sublist L0 → listed.size = ops.size → (∀ i, i ∈ L ↔ (i < ops.size ∧ listed.getD i false = false)) →
      (∀ j o, listed.getD j false = true → ops[j]? = some o → ∀ e ∈ o.after, Region.binds .any e = true → listed.getD e.on false = true) →
      I a → zhu S X n QP ops (fun a w => Q .normal a w) L a w → wpAnyIn (FR S.r) n S.P .any ops Q m listed a w
  | 0, L, listed, a, w, hm, _, hsz, hmem, _, _, h => by
    have hL : L = [] := Jf hm
    subst hL
    refine ⟨?_, h⟩
    rw [Je]
    intro i hi
    obtain ⟨hl, o, ho, _⟩ := mem_ready.1 hi
    have hlt : i < ops.size := (Jk.1 ho).1
    have : i ∈ ([] : List Nat) := (hmem i).2 ⟨hlt, by
      have hls : i < listed.size := by omega
      simp [hls] at hl ⊢; exact hl⟩
    simp at this
  | m + 1, L, listed, a, w, hm, hsub, hsz, hmem, hcl, hia, h => by
    have hnd : L.Nodup := hO.nodup.sublist hsub
    have hget : ∀ i, i < ops.size → (listed.getD i true = false ↔ listed.getD i false = false) := fun i hi => by
      have hls : i < listed.size := by omega
      simp [hls]
    have hready : ∀ i, i ∈ Region.ready .any ops listed → i ∈ L := fun i hi => by
      obtain ⟨hl, o, ho, _⟩ := mem_ready.1 hi
      have hlt : i < ops.size := (Jk.1 ho).1
      exact (hmem i).2 ⟨hlt, (hget i hlt).1 hl⟩
    refine ⟨fun h0 => ?_, fun i hi => ?_⟩
    ·
      exfalso
      cases L with
      | nil => simp at hm
      | cons i r =>
        have hil := (hmem i).1 Kz
        have : i ∈ Region.ready .any ops listed := by
          refine mem_ready.2 ⟨(hget i hil.1).2 hil.2, ops[i], Jm hil.1, fun e he hb => ?_⟩
          have ht := hO.topo i _ e (Jm hil.1) he hb
          cases hle : listed.getD e.on false with
          | true => rfl
          | false =>
            exfalso
            have heo : e.on < ops.size := (hO.mem e.on).1 (ht.subset (by simp))
            have hel : e.on ∈ i :: r := (hmem e.on).2 ⟨heo, hle⟩
            have hne : e.on ≠ i := fun he => by
              have := hO.nodup.sublist ht
              simp [he] at this
            have hir : e.on ∈ r := by
              cases hel with
              | head => exact GA rfl hne
              | tail _ h => exact h
            have h1 : [i, e.on].Sublist L0 := (List.Sublist.cons_cons i (List.singleton_sublist.2 hir)).trans hsub
            exact (zkA hne hO.nodup ht h1).elim
        rw [h0] at this
        simp at this
    · have hiL := hready i hi
      obtain ⟨hl, o, ho, hall⟩ := mem_ready.1 hi
      have hlt : i < ops.size := (Jk.1 ho).1
      have hind : ∀ k, [k, i].Sublist L → Indep S X ops k i := fun k hs => by
        rcases hO.pair k i (hs.trans hsub) with ⟨f, hf⟩ | hind
        · exfalso
          have hk : k ∈ L := hs.subset (by simp)
          have h1 := ((hmem k).1 hk).2
          have h2 := zc5 hcl f k i o ho hall hf
          rw [h1] at h2; simp at h2
        · exact hind
      have h2 := zgr L hnd hiL hind a w h
      have hnext : ∀ a w, I a → zhu S X n QP ops (fun a w => Q .normal a w) (L.filter (· ≠ i)) a w → wpAnyIn (FR S.r) n S.P .any ops Q m (listed.setIfInBounds i true) a w := fun a w hia hh => by
        refine zgy hI hQ hS hO m _ _ a w ?_ (List.filter_sublist.trans hsub) (by simpa using hsz) ?_ ?_ hia hh
        · have : (L.filter (· ≠ i)) = L.erase i := by rw [hnd.erase_eq_filter]; exact KR fun x _ => by by_cases h : x = i <;> simp [h]
          rw [this, List.length_erase_of_mem hiL]; omega
        · intro j
          rw [QV, hmem j]
          by_cases hji : j = i
          · subst hji
            simp [hsz, hlt]
          · have hij : ¬ i = j := fun e => hji e.symm
            simp [hji, hij]
        · intro j oj hj hoj e he hb
          by_cases hji : j = i
          · subst hji
            rw [ho] at hoj; cases hoj
            have := hall e he hb
            by_cases hei : e.on = j
            · simp [hei, hsz, hlt]
            · have hei' : ¬ j = e.on := fun e => hei e.symm
              simpa [Jh, hei'] using this
          · have hij : ¬ i = j := fun e => hji e.symm
            have hj' : listed.getD j false = true := by simpa [Jh, hij] using hj
            have := hcl j oj hj' hoj e he hb
            by_cases hei : e.on = i
            · simp [hei, hsz, hlt]
            · have hei' : ¬ i = e.on := fun e => hei e.symm
              simpa [Jh, hei'] using this
      exact zcF (hS o (JI ho)) ho (fun ch w => hQ ch a w hia) (fun u w => hnext _ w (hI _ _ _ hia)) h2
inductive OT where
  | nil
  | op (i : Nat) (t : OT)
  | alt (a b : OT)
def zdu (S : Sig) (X : List Nat) (n : Nat) (QP : List PanicEntry → Wd → Prop) (ops : Array Oper) (K : Act → Wd → Prop) : OT → Act → Wd → Prop
  | .nil, a, w => K a w
  | .op i t, a, w => jz S X n QP ops i (zdu S X n QP ops K t) a w
  | .alt x y, a, w => zdu S X n QP ops K x a w ∧ zdu S X n QP ops K y a w
def OT.first (ind : Nat → Nat → Bool) (i : Nat) : OT → Option OT
  | .nil => none
  | .op k t => if k = i then some t else if ind k i = true then (OT.first ind i t).map (.op k) else none
  | .alt x y => match OT.first ind i x with
    | some x' => some x'
    | none => OT.first ind i y
theorem zcl {K : Act → Wd → Prop} {i : Nat} {ind : Nat → Nat → Bool} (hind : ∀ k, ind k i = true → Indep S X ops k i) : ∀ (T T' : OT), OT.first ind i T = some T' → ∀ (a : Act) (w : Wd), zdu S X n QP ops K T a w →
    jz S X n QP ops i (zdu S X n QP ops K T') a w
  | .nil, _, h, _, _, _ => by simp [OT.first] at h
  | .op k t, T', h, a, w, hh => by
    simp only [OT.first] at h
    split at h
    · rename_i e
      subst e
      cases h
      exact hh
    · split at h
      · rename_i hk
        obtain ⟨t', ht', rfl⟩ := Option.map_eq_some_iff.1 h
        exact zeC (hind k hk) (zeD (fun a w hh => zcl hind t t' ht' a w hh) hh)
      · cases h
  | .alt x y, T', h, a, w, hh => by
    simp only [OT.first] at h
    split at h
    · rename_i u hx
      simp only [KZ] at h
      subst h
      exact zcl hind x u hx a w hh.1
    · exact zcl hind y T' h a w hh.2
def zmt (ind : Nat → Nat → Bool) (ops : Array Oper) : Nat → Array Bool → OT → Bool
  | 0, listed, T => (Region.ready .any ops listed).isEmpty && (match T with | .nil => true | _ => false)
  | m + 1, listed, T => !(Region.ready .any ops listed).isEmpty && (Region.ready .any ops listed).all fun i =>
      match OT.first ind i T with
      | some T' => zmt ind ops m (listed.setIfInBounds i true) T'
      | none => false
theorem zgx {Q : Exit → Act → Wd → Prop} {I : Act → Prop} (hI : ∀ a dst v, I a → I (a.put dst v)) (hQ : ∀ ch a w, I a → QP ch w → Q (.panic ch) a w) (hS : ∀ o, o ∈ ops → jB o.op = true) {ind : Nat → Nat → Bool} (hind : ∀ k i, ind k i = true → Indep S X ops k i) :
    ∀ (m : Nat) (listed : Array Bool) (T : OT) (a : Act) (w : Wd), zmt ind ops m listed T = true →
      I a → zdu S X n QP ops (fun a w => Q .normal a w) T a w → wpAnyIn (FR S.r) n S.P .any ops Q m listed a w
  | 0, listed, T, a, w, hc, _, h => by
    simp only [zmt, Qh, Qr] at hc
    obtain ⟨h1, h2⟩ := hc
    split at h2
    · exact ⟨h1, h⟩
    · cases h2
  | m + 1, listed, T, a, w, hc, hia, h => by
    simp only [zmt, Qh, KJ, Jr, Qj] at hc
    refine ⟨fun h0 => GA h0 hc.1, fun i hi => ?_⟩
    obtain ⟨_, o, ho, _⟩ := mem_ready.1 hi
    have hc' := hc.2 i hi
    split at hc'
    · rename_i T' hT'
      have h2 := zcl (fun k hk => hind k i hk) T T' hT' a w h
      have hnext : ∀ a w, I a → zdu S X n QP ops (fun a w => Q .normal a w) T' a w → wpAnyIn (FR S.r) n S.P .any ops Q m (listed.setIfInBounds i true) a w := fun a w hia hh =>
        zgx hI hQ hS hind m _ T' a w hc' hia hh
      exact zcF (hS o (JI ho)) ho (fun ch w => hQ ch a w hia) (fun u w => hnext _ w (hI _ _ _ hia)) h2
    · cases hc'
end
def OT.firsts (ind : Nat → Nat → Bool) (i : Nat) : OT → List OT
  | .nil => []
  | .op k t => if k = i then [t] else if ind k i = true then (OT.firsts ind i t).map (.op k) else []
  | .alt x y => OT.firsts ind i x ++ OT.firsts ind i y
def zk9 (ind : Nat → Nat → Bool) (ops : Array Oper) : Nat → Array Bool → OT → Bool
  | 0, listed, T => (Region.ready .any ops listed).isEmpty && (match T with | .nil => true | _ => false)
  | m + 1, listed, T => !(Region.ready .any ops listed).isEmpty && (Region.ready .any ops listed).all fun i =>
      (OT.firsts ind i T).any fun T' => zk9 ind ops m (listed.setIfInBounds i true) T'
section
variable {S : Sig} {X : List Nat} {n : Nat} {QP : List PanicEntry → Wd → Prop} {ops : Array Oper}
theorem zbL {K : Act → Wd → Prop} {i : Nat} {ind : Nat → Nat → Bool} (hind : ∀ k, ind k i = true → Indep S X ops k i) : ∀ (T T' : OT), T' ∈ OT.firsts ind i T → ∀ (a : Act) (w : Wd), zdu S X n QP ops K T a w →
    jz S X n QP ops i (zdu S X n QP ops K T') a w
  | .nil, _, h, _, _, _ => by simp [OT.firsts] at h
  | .op k t, T', h, a, w, hh => by
    simp only [OT.firsts] at h
    split at h
    · rename_i e
      subst e
      rw [KA] at h
      subst h
      exact hh
    · split at h
      · rename_i hk
        obtain ⟨t', ht', rfl⟩ := UP.1 h
        exact zeC (hind k hk) (zeD (fun a w hh => zbL hind t t' ht' a w hh) hh)
      · cases h
  | .alt x y, T', h, a, w, hh => by
    simp only [OT.firsts, QU] at h
    rcases h with h | h
    · exact zbL hind x T' h a w hh.1
    · exact zbL hind y T' h a w hh.2
theorem zdr {Q : Exit → Act → Wd → Prop} {I : Act → Prop} (hI : ∀ a dst v, I a → I (a.put dst v)) (hQ : ∀ ch a w, I a → QP ch w → Q (.panic ch) a w) (hS : ∀ o, o ∈ ops → jB o.op = true) {ind : Nat → Nat → Bool} (hind : ∀ k i, ind k i = true → Indep S X ops k i) :
    ∀ (m : Nat) (listed : Array Bool) (T : OT) (a : Act) (w : Wd), zk9 ind ops m listed T = true →
      I a → zdu S X n QP ops (fun a w => Q .normal a w) T a w → wpAnyIn (FR S.r) n S.P .any ops Q m listed a w
  | 0, listed, T, a, w, hc, _, h => by
    simp only [zk9, Qh, Qr] at hc
    obtain ⟨h1, h2⟩ := hc
    split at h2
    · exact ⟨h1, h⟩
    · cases h2
  | m + 1, listed, T, a, w, hc, hia, h => by
    simp only [zk9, Qh, KJ, Jr, Qj] at hc
    refine ⟨fun h0 => GA h0 hc.1, fun i hi => ?_⟩
    obtain ⟨_, o, ho, _⟩ := mem_ready.1 hi
    have hc' := hc.2 i hi
    rw [Qk] at hc'
    obtain ⟨T', hT', hc'⟩ := hc'
    have h2 := zbL (fun k hk => hind k i hk) T T' hT' a w h
    have hnext : ∀ a w, I a → zdu S X n QP ops (fun a w => Q .normal a w) T' a w → wpAnyIn (FR S.r) n S.P .any ops Q m (listed.setIfInBounds i true) a w := fun a w hia hh =>
      zdr hI hQ hS hind m _ T' a w hc' hia hh
    exact zcF (hS o (JI ho)) ho (fun ch w => hQ ch a w hia) (fun u w => hnext _ w (hI _ _ _ hia)) h2
end
def zsq (all : List Oper) (i : Nat) : Bool := all.any fun o => match o.guard with | some (j, _) => Nat.beq j i | none => false
def ztX (g : Bool) (v : Value) (K : Value → Prop) : Prop :=
  match g with
  | true => (match v with
    | .bool b => Br b (K (.bool true)) (K (.bool false))
    | v => K v)
  | false => K v
def zgo : List Oper → Nat → Option Oper
  | [], _ => none
  | o :: _, 0 => some o
  | _ :: r, i + 1 => zgo r i
def zuw (all : List Oper) (E : Env) (j : Nat) : Option (Option Bool) :=
  match zgo all j with
  | some o => (match o.dst with
    | some d => (match Env.find E d with
      | some (.bool b) => some (some b)
      | some (.tuple _) => some none
      | _ => none)
    | none => none)
  | none => none
def zsw (all : List Oper) (i : Nat) (op : Op) : Bool := match op with | .move _ => zsq all i | _ => false
def zhL (S : Sig) (all : List Oper) (dr : Bool) (i : Nat) (o : Oper) (E : Env) (w : Wd) (K : Env → Wd → Prop) (KP : Env → List PanicEntry → Wd → Prop) : Prop :=
  match zeP S.τ o.op with
  | true => zpN S E o.op w fun v => ztX (zsw all i o.op) v fun v => K (zdD o.dst v E) w
  | false => (match dr with
    | false => zsO S E o w (fun v w' => K (zdD o.dst v E) w') (KP E)
    | true => zsO S E o w (fun v w' => Below w.heap.size w w' ∧ K (zdD o.dst v E) w') (KP E))
def zaI (S : Sig) (all : List Oper) (dr : Bool) (i : Nat) (o : Oper) (E : Env) (w : Wd) (K : Env → Wd → Prop) (KP : Env → List PanicEntry → Wd → Prop) : Prop :=
  match zm9 S.n o.dst with
  | false => False
  | true => (match o.guard with
    | none => zhL S all dr i o E w K KP
    | some (j, want) => (match zuw all E j with
      | some (some b) => (match b, want with
        | true, true => zhL S all dr i o E w K KP
        | false, false => zhL S all dr i o E w K KP
        | true, false => K (zdD o.dst undef E) w
        | false, true => K (zdD o.dst undef E) w)
      | some none => K (zdD o.dst undef E) w
      | none => False))
def zeK (S : Sig) (all : List Oper) : Nat → List Oper → Env → Wd → (Env → Wd → Prop) → (Env → List PanicEntry → Wd → Prop) → Prop
  | _, [], E, w, K, _ => K E w
  | i, o :: r, E, w, K, KP => zaI S all false i o E w (fun E' w' => zeK S all (i + 1) r E' w' K KP) KP
def zom (S : Sig) (all : List Oper) (X : List Nat) (QP : List PanicEntry → Wd → Prop) : List Nat → Env → Wd → (Env → Wd → Prop) → Prop
  | [], E, w, K => K E w
  | i :: r, E, w, K => (match zgo all i with
    | some o => zaI S all (!zib i X) i o E w (fun E' w' => zom S all X QP r E' w' K) (fun _ ch w => QP ch w)
    | none => False)
def zhg (S : Sig) (all : List Oper) (X : List Nat) (QP : List PanicEntry → Wd → Prop) : OT → Env → Wd → (Env → Wd → Prop) → Prop
  | .nil, E, w, K => K E w
  | .op i t, E, w, K => (match zgo all i with
    | some o => zaI S all (!zib i X) i o E w (fun E' w' => zhg S all X QP t E' w' K) (fun _ ch w => QP ch w)
    | none => False)
  | .alt x y, E, w, K => zhg S all X QP x E w K ∧ zhg S all X QP y E w K
def zdh (τ : TT) (X : List Nat) (ops : Array Oper) (k i : Nat) : Bool :=
  match ops[k]?, ops[i]? with
  | some ok, some oi => ok.apart ops oi && zeP τ ok.op && jB ok.op && jB oi.op && (zeP τ oi.op || !zib i X || isN ok.op)
  | _, _ => false
def zji (τ : TT) (X : List Nat) (ops : Array Oper) : List Nat → Bool
  | [] => true
  | k :: r => r.all (fun i => ze1 ops ops.size k i || zdh τ X ops k i) && !r.contains k && zji τ X ops r
def zr2 (τ : TT) (X : List Nat) (ops : Array Oper) (L : List Nat) : Bool :=
  Nat.beq L.length ops.size && zji τ X ops L && L.all (fun i => Nat.blt i ops.size) && (List.range ops.size).all (fun i => L.contains i) &&
  (List.range ops.size).all (fun i => match ops[i]? with
    | some o => o.after.all fun e => !Region.binds .any e || [e.on, i].isSublist L
    | none => true) && ops.all (fun o => jB o.op)
theorem zcz {S : Sig} {X : List Nat} {ops : Array Oper} {k i : Nat} (hd : zdh S.τ X ops k i = true) : Indep S X ops k i := by
  refine ⟨fun ok oi hk ho => ?_⟩
  simp only [zdh, hk, ho, Qh, QI, KJ] at hd
  exact ⟨hd.1.1.1.1, hd.1.1.1.2, hd.1.1.2, hd.1.2, by rcases hd.2 with (h | h) | h; exact .inl h; exact .inr (.inl h); exact .inr (.inr h)⟩
theorem zgn {S : Sig} {X : List Nat} {ops : Array Oper} : ∀ {L : List Nat}, zji S.τ X ops L = true → L.Nodup ∧ ∀ k i, [k, i].Sublist L → (∃ f, ze1 ops f k i = true) ∨ Indep S X ops k i
  | [], _ => ⟨List.nodup_nil, fun _ _ h => by cases h⟩
  | x :: r, h => by
    simp only [zji, Qh, Qj, QI, KJ, JU, decide_eq_false_iff_not] at h
    obtain ⟨⟨h1, h2⟩, h3⟩ := h
    obtain ⟨hn, hp⟩ := zgn h3
    refine ⟨QX.2 ⟨h2, hn⟩, fun k i hs => ?_⟩
    cases hs with
    | cons _ hs => exact hp k i hs
    | cons_cons _ hs =>
      have hi : i ∈ r := List.singleton_sublist.1 hs
      rcases h1 i hi with hw | hd
      · exact .inl ⟨_, hw⟩
      · exact .inr (zcz hd)
theorem zol {S : Sig} {X : List Nat} {ops : Array Oper} {L : List Nat} (h : zr2 S.τ X ops L = true) : L.length = ops.size ∧ OrdOk S X ops L ∧ ∀ o, o ∈ ops → jB o.op = true := by
  simp only [zr2, Qh, Qj, Gm, Ur, JU, decide_eq_true_eq] at h
  obtain ⟨⟨⟨⟨⟨h0, h1⟩, h2⟩, h3⟩, h4⟩, h5⟩ := h
  obtain ⟨hn, hp⟩ := zgn h1
  refine ⟨JR h0, ⟨hn, fun i => ⟨h2 i, h3 i⟩, hp, fun i o e ho he hb => ?_⟩, fun o ho => ?_⟩
  · have hi : i < ops.size := (Jk.1 ho).1
    have := h4 i hi
    simp only [ho, Jc] at this
    have := this e he
    simp only [hb, Uy, Ux] at this
    exact List.isSublist_iff_sublist.1 this
  · simp only [Jc] at h5
    exact h5 o ho
theorem zdS : ∀ (l : List Oper) (i : Nat), zgo l i = l[i]?
  | [], i => by simp [zgo]
  | _ :: _, 0 => rfl
  | _ :: r, i + 1 => by simp only [zgo, Ju]; exact zdS r i
section
variable {S : Sig} {n : Nat} {ops : Array Oper} {E : Env} {a : Act} {w : Wd}
theorem zen (ha : Agrees S a E) {j : Nat} {r : Option Bool} (h : zuw ops.toList E j = some r) : yielded ops a.tmps j = r := by
  unfold zuw at h
  rw [zdS] at h
  split at h
  · rename_i o ho
    split at h
    · rename_i d hd
      have ho' : ops[j]? = some o := by simpa using ho
      split at h
      · rename_i b hf
        cases h
        have := ha.val d _ hf
        simp [yielded, ho', hd, this]
      · rename_i t hf
        cases h
        have := ha.val d _ hf
        simp [yielded, ho', hd, this]
      · cases h
    · cases h
  · cases h
theorem ziq {g : Bool} {v : Value} {K : Value → Prop} (h : ztX g v K) : K v := by
  unfold ztX at h
  split at h
  · split at h
    · rename_i b
      cases b
      · exact h.2 rfl
      · exact h.1 rfl
    · exact h
  · exact h
theorem zim (hS : SigOk S) {i : Nat} {o : Oper} (ho : ops[i]? = some o) (hs : jB o.op = true) {K : Env → Wd → Prop} {KP : Env → List PanicEntry → Wd → Prop}
    {next : Act → Wd → Prop} {Q : Exit → Act → Wd → Prop} (h : zaI S ops.toList false i o E w K KP) (ha : Agrees S a E)
    (hn : ∀ E' a' w', Agrees S a' E' → K E' w' → next a' w') (hp : ∀ ch w', KP E ch w' → Q (.panic ch) a w') :
    wpOpIn (FR S.r) n S.P ops Q i next a w := by
  unfold zaI at h
  split at h
  · exact h.elim
  · rename_i hd
    have ex : zhL S ops.toList false i o E w K KP → o.wpIn (FR S.r) n S.P a w next Q := fun h => by
      unfold zhL at h
      split at h
      · obtain ⟨v, hk, hr⟩ := zgm hS h
        exact (qs (S := S) (n := n) (zaY hs) (hr a ha w (.inr (Gj _ _))) (hn _ _ _ (ha.put hd v) (ziq hk))).wpIn (zaY hs)
      · exact (zeV hS h ha (fun v w' hk => hn _ _ _ (ha.put hd v) hk) hp).wpIn (zaY hs)
    have sk : K (zdD o.dst undef E) w → (∀ f, o.about S.P w a.eval = some f → (FR S.r).fn f) ∧ next (a.put o.dst undef) w := fun h => ⟨fun _ _ => trivial, hn _ _ _ (ha.put hd undef) h⟩
    unfold wpOpIn
    simp only [ho]
    split at h
    · rename_i hg
      have : Region.wanted o (yielded ops a.tmps) = true := by simp [Region.wanted, hg]
      rw [Gz this]; exact ex h
    · rename_i j want hg
      split at h
      · rename_i b hgv
        have hy := zen ha hgv
        have hw : Region.wanted o (yielded ops a.tmps) = (b == want) := by simp [Region.wanted, hg, hy]
        rw [hw]
        cases b <;> cases want <;> simp only [] at h <;> first | exact ex h | exact sk h
      · rename_i hgv
        have hy := zen ha hgv
        have hw : Region.wanted o (yielded ops a.tmps) = false := by simp [Region.wanted, hg, hy]
        rw [hw]
        exact sk h
      · exact h.elim
theorem zgk (hS : SigOk S) {X : List Nat} {i : Nat} {o : Oper} (ho : ops[i]? = some o) (_hs : jB o.op = true) {K : Env → Wd → Prop}
    {next : Act → Wd → Prop} {QP : List PanicEntry → Wd → Prop} (h : zaI S ops.toList (!zib i X) i o E w K (fun _ ch w => QP ch w)) (ha : Agrees S a E)
    (hn : ∀ E' a' w', Agrees S a' E' → K E' w' → next a' w') :
    jz S X n QP ops i next a w := by
  unfold zaI at h
  split at h
  · exact h.elim
  · rename_i hd
    have ex : zhL S ops.toList (!zib i X) i o E w K (fun _ ch w => QP ch w) → (if zeP S.τ o.op = true then ∃ v, PV S.P o a w v ∧ next (a.put o.dst v) w
       else UponE S n o a w (fun a' w' => (zib i X = false → Below w.heap.size w w') ∧ next a' w') (PQ QP)) := fun h => by
      unfold zhL at h
      split at h
      · rename_i hp
        rw [Gz hp]
        obtain ⟨v, hk, hr⟩ := zgm hS h
        exact ⟨v, fun w2 hb => hr a ha w2 hb, hn _ _ _ (ha.put hd v) (ziq hk)⟩
      · rename_i hp
        rw [Gy (by simp [hp])]
        split at h
        · rename_i hm
          have hm' : zib i X = true := by simpa using hm
          exact zeV hS h ha (fun v w' hk => ⟨fun hf => (by rw [hm'] at hf; cases hf), hn _ _ _ (ha.put hd v) hk⟩) (fun _ _ h => h)
        · exact zeV hS h ha (fun v w' hk => ⟨fun _ => hk.1, hn _ _ _ (ha.put hd v) hk.2⟩) (fun _ _ h => h)
    have sk : K (zdD o.dst undef E) w → next (a.put o.dst undef) w := fun h => hn _ _ _ (ha.put hd undef) h
    unfold jz
    simp only [ho]
    split at h
    · rename_i hg
      have : Region.wanted o (yielded ops a.tmps) = true := by simp [Region.wanted, hg]
      rw [Gz this]; exact ex h
    · rename_i j want hg
      split at h
      · rename_i b hgv
        have hy := zen ha hgv
        have hw : Region.wanted o (yielded ops a.tmps) = (b == want) := by simp [Region.wanted, hg, hy]
        rw [hw]
        cases b <;> cases want <;> simp only [] at h <;> first | exact ex h | exact sk h
      · rename_i hgv
        have hy := zen ha hgv
        have hw : Region.wanted o (yielded ops a.tmps) = false := by simp [Region.wanted, hg, hy]
        rw [hw]
        exact sk h
      · exact h.elim
end
section
variable {S : Sig} {n : Nat}
def zfw (S : Sig) (Q : Exit → Env → Wd → Prop) : Exit → Act → Wd → Prop := fun ex a w => ∃ E, Agrees S a E ∧ Q ex E w
theorem zhi (hS : SigOk S) {ops : Array Oper} (hsel : ∀ o ∈ ops, jB o.op = true) {Q : Exit → Env → Wd → Prop} :
    ∀ (r : List Oper) (i : Nat) (E : Env) (a : Act) (w : Wd), (∀ k o, r[k]? = some o → ops[i + k]? = some o) → Agrees S a E →
      zeK S ops.toList i r E w (fun E w => Q .normal E w) (fun E ch w => Q (.panic ch) E w) →
      wpOpsIn (FR S.r) n S.P ops (zfw S Q) (List.range' i r.length) a w
  | [], i, E, a, w, _, ha, h => by simp only [QR, List.range'_zero, wpOpsIn]; exact ⟨E, ha, h⟩
  | o :: r, i, E, a, w, hr, ha, h => by
    rw [Qs, List.range'_succ, wpOpsIn_cons]
    have ho : ops[i]? = some o := by simpa using hr 0 o rfl
    refine zim hS ho (hsel o (JI ho)) h ha (fun E' a' w' ha' hk => ?_) (fun ch w' hk => ⟨E, ha, hk⟩)
    exact zhi hS hsel r (i + 1) E' a' w' (fun k o' hk => by have := hr (k + 1) o' (by simpa using hk); rwa [UI, UQ 1 k]) ha' hk
theorem zhh (hS : SigOk S) {X : List Nat} {QP : List PanicEntry → Wd → Prop} {ops : Array Oper} (hsel : ∀ o ∈ ops, jB o.op = true) {K : Env → Wd → Prop} :
    ∀ (L : List Nat) (E : Env) (a : Act) (w : Wd), Agrees S a E → zom S ops.toList X QP L E w K →
      zhu S X n QP ops (fun a w => ∃ E, Agrees S a E ∧ K E w) L a w
  | [], E, _, _, ha, h => ⟨E, ha, h⟩
  | i :: r, E, a, w, ha, h => by
    simp only [zom, zdS] at h
    split at h
    · rename_i o ho
      have ho' : ops[i]? = some o := by simpa using ho
      exact zgk hS ho' (hsel o (JI ho')) h ha (fun E' a' w' ha' hk => zhh hS hsel r E' a' w' ha' hk)
    · exact h.elim
theorem zbj (hS : SigOk S) {X : List Nat} {QP : List PanicEntry → Wd → Prop} {ops : Array Oper} (hsel : ∀ o ∈ ops, jB o.op = true) {K : Env → Wd → Prop} :
    ∀ (T : OT) (E : Env) (a : Act) (w : Wd), Agrees S a E → zhg S ops.toList X QP T E w K →
      zdu S X n QP ops (fun a w => ∃ E, Agrees S a E ∧ K E w) T a w
  | .nil, E, _, _, ha, h => ⟨E, ha, h⟩
  | .op i t, E, a, w, ha, h => by
    simp only [zhg, zdS] at h
    split at h
    · rename_i o ho
      have ho' : ops[i]? = some o := by simpa using ho
      exact zgk hS ho' (hsel o (JI ho')) h ha (fun E' a' w' ha' hk => zbj hS hsel t E' a' w' ha' hk)
    · exact h.elim
  | .alt x y, E, a, w, ha, h => ⟨zbj hS hsel x E a w ha h.1, zbj hS hsel y E a w ha h.2⟩
def DrawE (S : Sig) (ops : Array Oper) (E : Env) (w : Wd) (K : Env → Wd → Prop) (QP : List PanicEntry → Wd → Prop) : Prop :=
  (∃ X L : List Nat, zr2 S.τ X ops L = true ∧ zom S ops.toList X QP L E w.drew K) ∨
  (∃ (X : List Nat) (T : OT), (zmt (zdh S.τ X ops) ops ops.size (Array.replicate ops.size false) T && ops.all (fun o => jB o.op)) = true ∧ zhg S ops.toList X QP T E w.drew K) ∨
  (∃ (X : List Nat) (T : OT), (zk9 (zdh S.τ X ops) ops ops.size (Array.replicate ops.size false) T && ops.all (fun o => jB o.op)) = true ∧ zhg S ops.toList X QP T E w.drew K)
theorem DrawE.ord {S : Sig} {ops : Array Oper} {E : Env} {w : Wd} {K : Env → Wd → Prop} {QP : List PanicEntry → Wd → Prop} (X L : List Nat) (h : zr2 S.τ X ops L = true) (k : zom S ops.toList X QP L E w.drew K) : DrawE S ops E w K QP :=
  .inl ⟨X, L, h, k⟩
def zra (ops : List Oper) : Bool := ops.all fun o => jB o.op
def zrg (body : Env → Wd → (Exit → Env → Wd → Prop) → Prop) (E : Env) (w : Wd) (Q : Exit → Env → Wd → Prop) : Prop :=
  ∃ (σ : Type) (env : σ → Env) (inv : σ → Wd → Prop) (μ : σ → Nat) (s0 : σ), Cov E (env s0) ∧ inv s0 w ∧
    ∀ s w, inv s w → body (env s) w fun ex E' w' => match ex with
      | .normal => ∃ s', Cov E' (env s') ∧ inv s' w' ∧ μ s' < μ s
      | ex => Q ex E' w'
def zjN (S : Sig) (f : Operand) (params : Array Tmp) (assign body : Code) (E : Env) (w : Wd) (Q : Exit → Env → Wd → Prop) : Prop :=
  ∀ a, Agrees S a E → (Code.rangeFunc f params assign body).wpIn (FR S.r) NN S.P (zfw S Q) a w
def wpE (S : Sig) : Code → Env → Wd → (Exit → Env → Wd → Prop) → Prop
  | .skip, E, w, Q => Q .normal E w
  | .region _ ops draw, E, w, Q => (match draw with
    | false => (match zra ops.toList with
      | true => zeK S ops.toList 0 ops.toList E w (fun E w => Q .normal E w) (fun E ch w => Q (.panic ch) E w)
      | false => False)
    | true => DrawE S ops E w (fun E w => Q .normal E w) (fun ch w => Q (.panic ch) ⟨[], E.ds⟩ w))
  | .seq x y, E, w, Q => wpE S x E w fun ex E' w' => match ex with
    | .normal => wpE S y E' w' Q
    | ex => Q ex E' w'
  | .cond c x y, E, w, Q => (match opd E c with
    | some (.bool b) => Br b (wpE S x E w Q) (wpE S y E w Q)
    | _ => False)
  | .block id x, E, w, Q => wpE S x E w fun ex E' w' => match ex with
    | .exit id' => (match Nat.beq id' id with
      | true => Q .normal E' w'
      | false => Q (.exit id') E' w')
    | ex => Q ex E' w'
  | .loop x, E, w, Q => zrg (fun E w Q => wpE S x E w Q) E w Q
  | .rangeFunc f ps ags x, E, w, Q => zjN S f ps ags x E w Q
  | .exit id, E, w, Q => Q (.exit id) E w
  | .scope _, _, _, _ => False
  | .label _, E, w, Q => Q .normal E w
  | .goto l, E, w, Q => Q (.goto l) E w
  | .ret, E, w, Q => Q .ret E w
  | .refuse _, _, _, _ => False
theorem qS (hS : SigOk S) : ∀ (c : Code) (E : Env) (a : Act) (w : Wd) (Q : Exit → Env → Wd → Prop), Agrees S a E → wpE S c E w Q → c.wpIn (FR S.r) NN S.P (zfw S Q) a w
  | .skip, E, a, w, Q, ha, h => wpIn_skip ⟨E, ha, h⟩
  | .region id ops draw, E, a, w, Q, ha, h => by
    cases draw with
    | false =>
      simp only [wpE] at h
      split at h
      · rename_i hs
        refine wpIn_region ?_
        rw [List.range_eq_range']
        have hs' : ∀ o ∈ ops, jB o.op = true := fun o ho => by
          simp only [zra, Qj] at hs
          exact hs o (Array.mem_toList_iff.2 ho)
        have := zhi (n := NN) hS hs' ops.toList 0 E a w (fun k o hk => by simpa using hk) ha h
        simpa using this
      · exact h.elim
    | true =>
      simp only [wpE] at h
      refine wpIn_region_any hS.mixed ?_
      have hI : ∀ (b : Act) (dst : Option Tmp) (v : Value), (b.tmps.size = S.n ∧ b.defers = E.ds) → ((b.put dst v).tmps.size = S.n ∧ (b.put dst v).defers = E.ds) := fun b dst v hb => by
        cases dst with
        | none => exact hb
        | some d => exact ⟨by simp [Act.put, hb.1], hb.2⟩
      have hQ : ∀ ch (b : Act) w, (b.tmps.size = S.n ∧ b.defers = E.ds) → Q (.panic ch) ⟨[], E.ds⟩ w → zfw S Q (.panic ch) b w := fun ch b w hb hq => ⟨⟨[], E.ds⟩, ⟨hb.1, hb.2, fun t v hv => by simp [Env.find, VEnv.find] at hv⟩, hq⟩
      have hia : a.tmps.size = S.n ∧ a.defers = E.ds := ⟨ha.size, ha.defers⟩
      rcases h with ⟨X, L, hL, h⟩ | ⟨X, T, hT, h⟩ | ⟨X, T, hT, h⟩
      · obtain ⟨hlen, hO, hs⟩ := zol hL
        have h1 := zhh (n := NN) hS hs L E a w.drew ha h
        refine zgy (Q := zfw S Q) hI hQ hs hO ops.size L (Array.replicate ops.size false) a w.drew hlen (List.Sublist.refl _) (by simp) (fun i => ?_) (fun j o hj => ?_) hia h1
        · rw [hO.mem i]
          refine ⟨fun hi => ⟨hi, by simp [hi]⟩, fun hi => hi.1⟩
        · exfalso
          by_cases hjs : j < ops.size <;> simp [hjs] at hj
      · simp only [Qh, Jc] at hT
        exact zgx (Q := zfw S Q) hI hQ hT.2 (fun k i h => zcz h) ops.size _ T a w.drew hT.1 hia (zbj (n := NN) hS hT.2 T E a w.drew ha h)
      · simp only [Qh, Jc] at hT
        exact zdr (Q := zfw S Q) hI hQ hT.2 (fun k i h => zcz h) ops.size _ T a w.drew hT.1 hia (zbj (n := NN) hS hT.2 T E a w.drew ha h)
  | .seq x y, E, a, w, Q, ha, h => by
    refine wpIn_seq ?_
    refine Gq (qS hS x E a w _ ha h) ?_
    rintro ex a' w' ⟨E', ha', hq⟩
    cases ex with
    | normal => exact qS hS y E' a' w' Q ha' hq
    | _ => exact ⟨E', ha', hq⟩
  | .cond c x y, E, a, w, Q, ha, h => by
    simp only [wpE] at h
    split at h
    · rename_i b hb
      refine wpIn_cond_split (ha.eval hb) (fun e => qS hS x E a w Q ha (h.1 e)) (fun e => qS hS y E a w Q ha (h.2 e))
    · exact h.elim
  | .block id x, E, a, w, Q, ha, h => by
    refine wpIn_block ?_
    refine Gq (qS hS x E a w _ ha h) ?_
    rintro ex a' w' ⟨E', ha', hq⟩
    cases ex with
    | exit id' =>
      simp only [Exit.inBlock]
      dsimp only at hq
      split at hq
      · rename_i hb; rw [Gz (JR hb)]; exact ⟨E', ha', hq⟩
      · rename_i hb; rw [Gy (Nat.ne_of_beq_eq_false hb)]; exact ⟨E', ha', hq⟩
    | _ => exact ⟨E', ha', hq⟩
  | .loop x, E, a, w, Q, ha, h => by
    obtain ⟨σ, env, inv, μ, s0, hc, hi, hb⟩ := h
    have key : ∀ m s a w, μ s = m → Agrees S a (env s) → inv s w → (Code.loop x).wpIn (FR S.r) NN S.P (zfw S Q) a w := by
      intro m s a w hm ha hi
      refine wpIn_loop (fun a w => ∃ s, Agrees S a (env s) ∧ inv s w) (fun a w => leastOf (fun k => ∃ s, Agrees S a (env s) ∧ inv s w ∧ μ s = k)) ⟨s, ha, hi⟩ ?_
      intro a w ⟨s1, ha1, hi1⟩
      obtain ⟨⟨s2, ha2, hi2, hm2⟩, _⟩ := leastOf_spec (p := fun k => ∃ s, Agrees S a (env s) ∧ inv s w ∧ μ s = k) ⟨_, s1, ha1, hi1, rfl⟩
      refine Gq (qS hS x (env s2) a w _ ha2 (hb s2 w hi2)) ?_
      rintro ex a' w' ⟨E', ha', hq⟩
      cases ex with
      | normal =>
        obtain ⟨s', hc', hi', hlt⟩ := hq
        refine ⟨⟨s', ha'.cov hc', hi'⟩, ?_⟩
        have := (leastOf_spec (p := fun k => ∃ s, Agrees S a' (env s) ∧ inv s w' ∧ μ s = k) ⟨_, s', ha'.cov hc', hi', rfl⟩).2
        rw [← hm2]
        exact KE (this _ ⟨s', ha'.cov hc', hi', rfl⟩) hlt
      | _ => exact ⟨E', ha', hq⟩
    exact key _ s0 a w rfl (ha.cov hc) hi
  | .rangeFunc f ps ags x, E, a, w, Q, ha, h => h a ha
  | .exit id, E, a, w, Q, ha, h => wpIn_exit ⟨E, ha, h⟩
  | .scope _, _, _, _, _, _, h => h.elim
  | .label _, E, a, w, Q, ha, h => wpIn_label ⟨E, ha, h⟩
  | .goto l, E, a, w, Q, ha, h => wpIn_goto ⟨E, ha, h⟩
  | .ret, E, a, w, Q, ha, h => wpIn_ret ⟨E, ha, h⟩
  | .refuse _, _, _, _, _, _, h => h.elim
def zje (E : Env) (w : Wd) : (τ : TT) → List ResultVar → (List Value → Prop) → Prop
  | _, [], K => K []
  | τ, .tmp t :: r, K => zZ E (.tmp t) fun v => zje E w τ r fun vs => K (v :: vs)
  | τ, .cell t T :: r, K => zZ E (.tmp t) fun va => (match va with
    | .pointer (some p) => (match TT.get τ T with
      | some { agg := true, size := sz, .. } => ∃ us : List Value, us.length = sz ∧ zw w p us ∧ zje E w τ r fun vs => K (.agg us.toArray :: vs)
      | some { agg := false, .. } => ∃ u, w.cell? p = some u ∧ zje E w τ r fun vs => K (u :: vs)
      | none => False)
    | _ => False)
def j7 : List Value → Value
  | [v] => v
  | l => .tuple l.toArray
theorem zfd {S : Sig} (hS : SigOk S) {E : Env} {a : Act} {w : Wd} (ha : Agrees S a E) : ∀ (l : List ResultVar) (K : List Value → Prop), zje E w S.τ l K →
    ∃ vs, K vs ∧ (l.mapM fun | .tmp t => pure (a.tmps.getD t undef) | .cell q t => do loadVar t (← asAddr (a.tmps.getD q undef)) : Sem (List Value)).run S.P w = .ok vs w
  | [], K, h => ⟨[], h, rfl⟩
  | .tmp t :: r, K, h => by
    obtain ⟨v, hv, h⟩ := zx h
    obtain ⟨vs, hk, hr⟩ := zfd hS ha r _ h
    have : a.tmps.getD t undef = v := ha.eval hv
    refine ⟨_, hk, ?_⟩
    simp only [Uq, Ga, Gb, Qa, this]
    rw [hr]
    rfl
  | .cell q T :: r, K, h => by
    simp only [zje] at h
    replace h := zx h
    obtain ⟨va, hv, h⟩ := h
    have e0 : a.tmps.getD q undef = va := ha.eval hv
    split at h
    · rename_i p
      split at h
      · rename_i sz _ _ ht
        obtain ⟨us, hl, hc, h⟩ := h
        obtain ⟨vs, hk, hr⟩ := zfd hS ha r _ h
        refine ⟨_, hk, ?_⟩
        have e : asAddr (a.tmps.getD q undef) = pure p := by rw [e0]; rfl
        simp only [Uq, Ga, Gb, Qa, e, zgq (hS.ty _ _ ht) rfl hl hc]
        rw [hr]
        rfl
      · rename_i _ _ _ _ ht
        obtain ⟨u, hc, h⟩ := h
        obtain ⟨vs, hk, hr⟩ := zfd hS ha r _ h
        refine ⟨_, hk, ?_⟩
        have e : asAddr (a.tmps.getD q undef) = pure p := by rw [e0]; rfl
        simp only [Uq, Ga, Gb, Qa, e, zgp (hS.ty _ _ ht) rfl hc]
        rw [hr]
        rfl
      · exact h.elim
    · exact h.elim
theorem zkd {S : Sig} (hS : SigOk S) {E : Env} {a : Act} {w : Wd} (ha : Agrees S a E) {fn : Func} {K : Value → Prop} (h : zje E w S.τ fn.results.toList fun vs => K (j7 vs)) :
    ∃ v, K v ∧ (results fn a.tmps).run S.P w = .ok v w := by
  obtain ⟨vs, hk, hr⟩ := zfd hS ha _ _ h
  refine ⟨_, hk, ?_⟩
  unfold results
  rw [Ga, Array.mapM_eq_mapM_toList, Sem.run_map]
  refine Eq.trans (Gs (fun x => Result.andThen (Result.andThen x _) _) hr) ?_
  simp only [Qa, Gb]
  congr 1
  match vs with
  | [] => simp [j7]
  | [v] => simp [j7]
  | v :: u :: r => simp [j7]
def zju : List Deferred → Wd → (Wd → Prop) → Prop
  | [], w, K => K w
  | d :: r, w, K => ∃ b, d.target = .collected b ∧ w.heap[b]? = some (.deferred (some [])) ∧ zju r (w.putObj b (.deferred none)) K
def zko (S : Sig) (fn : Func) (R : Ending → Wd → Prop) : Exit → Env → Wd → Prop
  | .normal, E, w => zju E.ds w fun w' => zje E w' S.τ fn.results.toList fun vs => R (.returned (j7 vs)) w'
  | .ret, E, w => zju E.ds w fun w' => zje E w' S.τ fn.results.toList fun vs => R (.returned (j7 vs)) w'
  | .panic ch, E, w => E.ds = [] ∧ R (.panicked ch) w
  | _, _, _ => False
theorem j0 {S : Sig} (hS : SigOk S) {fn : Func} {R : Ending → Wd → Prop} {a : Act} {E : Env} (ha : Agrees S a E) : ∀ (ds : List Deferred) (w : Wd),
    (zju ds w fun w' => zje E w' S.τ fn.results.toList fun vs => R (.returned (j7 vs)) w') → LeavesInM (FR none) NN S.P fn a.tmps R ds .returning w
  | [], w, h => by
    obtain ⟨v, hk, hr⟩ := zkd hS ha (K := fun v => R (.returned v) w) h
    exact ⟨v, hr, hk⟩
  | d :: r, w, ⟨b, hd, hb, h⟩ => ⟨by simp, .inl ⟨b, _, hd, run_takeDeferred hb, j0 hS ha r _ h⟩⟩
def zdA : Nat → List Value → VEnv
  | _, [] => []
  | i, v :: r => (i, v) :: zdA (i + 1) r
theorem zdq : ∀ (l : List Value) (i t : Nat) (v : Value), VEnv.find (zdA i l) t = some v → i ≤ t ∧ l[t - i]? = some v
  | [], _, _, _, h => by simp [zdA, VEnv.find] at h
  | u :: r, i, t, v, h => by
    simp only [zdA, VEnv.find] at h
    cases hb : Nat.beq i t with
    | true =>
      rw [hb] at h
      have e : i = t := JR hb
      subst e
      simp only [KZ] at h
      subst h
      simp
    | false =>
      rw [hb] at h
      obtain ⟨h1, h2⟩ := zdq r (i + 1) t v h
      refine ⟨by omega, ?_⟩
      have : t - i = (t - (i + 1)) + 1 := by omega
      rw [this]
      simpa using h2
theorem q8 {S : Sig} (hS : SigOk S) {f : FuncId} {fn : Func} {c : Code} {args : List Value} {w : Wd} {R : Ending → Wd → Prop}
    (hf : S.P.funcs[f]? = some fn) (hb : fn.body = some c) (hn : fn.ntmps = S.n) (hle : args.length ≤ S.n) (hr : S.r = none)
    (h : wpE S c ⟨zdA 0 args, []⟩ w (zko S fn R)) : Calls S.P f args.toArray w R := by
  rw [← callsIn_wide (n := NN)]
  have hF : FR none = Fence.wide := rfl
  rw [← hF]
  refine Ko hf hb trivial ?_
  have ha : Agrees S { tmps := args.toArray ++ Array.replicate (fn.ntmps - args.toArray.size) undef, defers := [] } ⟨zdA 0 args, []⟩ := by
    refine ⟨?_, rfl, fun t v hv => ?_⟩
    · simp [hn]; omega
    · obtain ⟨_, h2⟩ := zdq _ _ _ _ hv
      simp only [UX] at h2
      have hlt : t < args.length := (Jq.1 h2).1
      simp only [JH, KX, hlt, Gx]
      simpa using h2
  have h1 := qS hS c _ _ w _ ha h
  rw [hr] at h1
  refine Gq h1 ?_
  rintro ex a' w' ⟨E', ha', hq⟩
  cases ex with
  | normal => have := j0 hS ha' _ _ hq; rw [← ha'.defers] at this; exact this
  | ret => have := j0 hS ha' _ _ hq; rw [← ha'.defers] at this; exact this
  | panic ch =>
    obtain ⟨hd, hR⟩ := hq
    show LeavesInM _ _ _ _ _ _ a'.defers _ _
    rw [ha'.defers, hd]
    exact hR
  | exit _ => exact hq.elim
  | goto _ => exact hq.elim
  | outgrown => exact hq.elim
end
theorem rb {a b:Bool} (h:a=b):Ending.returned (.bool a)=Ending.returned (.bool b):=by rw [h]
theorem ri {k:IntKind} {a b:Int} (h:a=b):Ending.returned (.int k a)=Ending.returned (.int k b):=by rw [h]
theorem zk {a:Int} (h : -9223372036854775808<=a/\a<=9223372036854775807):IntKind.i64.wrap a=a:=by
 unfold IntKind.wrap;simp only [IntKind.bits,IntKind.signed,UA,show ((2:Int)^64)=18446744073709551616 from rfl,show ((2:Int)^(64-1))=9223372036854775808 from rfl]
 split
 ·rename_i h2;have:=dT h2;omega
 ·rename_i h2;have h3:a%18446744073709551616<9223372036854775808:=by simpa using h2
  omega
theorem nxI {k:Nat} {K:Int->Prop} (h:(k:Int)+1<=9223372036854775807) (x:K ((k+1:Nat):Int)):∃ m,IntKind.i64.wrap ((k:Int)+1)=m/\K m:=⟨_,(zk (by omega)).trans (by omega),x⟩
theorem zgH {a:Int} (h:0<=a/\a<=255):IntKind.u8.wrap a=a:=by
 unfold IntKind.wrap;simp only [IntKind.bits,IntKind.signed,Ul,Kt,Gt];omega
theorem zvB (x:UInt8):(x.toNat:Int)<=255:=by have:=x.toNat_lt;omega
theorem qN (x:UInt8):IntKind.i64.wrap (x.toNat:Int)=(x.toNat:Int):=zk (by have:=zvB x;omega)
theorem qG {x y:UInt8}:((x.toNat:Int)=(y.toNat:Int))↔x=y :=
 ⟨fun h=>Uh.1 (by omega),fun h=>by rw [h]⟩
def u8 (x:UInt8):Value := .int .u8 x.toNat
theorem zhS {w:Wd} {b o:Nat} {v:Value} {vs:List Value} (h:zw w ⟨b,o,none⟩ (v::vs)):w.cell? ⟨b,o,none⟩=some v:=by
 have:=h 0 v rfl
 rwa [zbC] at this
theorem zc {w:Wd} {b o:Nat} {vs:List Value} (h:zw w ⟨b,o,none⟩ vs) {i:Nat} {v:Value} (hv:vs[i]?=some v):w.cell? ⟨b,o+i,none⟩=some v:=by
 have:=h i v hv
 rwa [zbC] at this
theorem qQ {w:Wd} {b o:Nat} {vs:List Value} (h:∀ i v,vs[i]?=some v->w.cell? ⟨b,o+i,none⟩=some v):zw w ⟨b,o,none⟩ vs :=
 fun i v hv=>by rw [zbC];exact h i v hv
theorem zV {w:Wd} {b o n m:Nat} {vs:List Value} (h:zw w ⟨b,o,none⟩ vs):zw w ⟨b,o+n,none⟩ ((vs.drop n).take m):=by
 refine qQ fun i v hv=>?_;rw [Kx] at hv
 split at hv
 ·rw [Kw] at hv;have:=zc h hv
  rwa [<- UI] at this
 ·cases hv
theorem za {w:Wd} {g:Nat} {cs:Array Value} {t:TypeId} {fr:Nat×Nat} (h:w.heap[g]?=some (.cells cs t fr)):zw w ⟨g,0,none⟩ cs.toList:=by
 refine qQ fun i v hv=>?_;rw [cell_of_row w g (0+i) cs t fr h,UY];simpa using hv
theorem jD {w:Wd} {g o n:Nat} {cs:Array Value} {t:TypeId} {fr:Nat×Nat} (h:w.heap[g]?=some (.cells cs t fr)):zw w ⟨g,o,none⟩ ((cs.toList.drop o).take n):=by
 have:=zV (n:=o) (m:=n) (za h)
 rwa [UY] at this
theorem ziU {w:Wd} {cs:Array Value} {t:TypeId}:zw (w.alloc (.cells cs t)) ⟨w.heap.size,0,none⟩ cs.toList :=
 za (heap_alloc_new w _)
theorem zb {w w2:Wd} (hb:Bw w w2) {g:Nat} {o:Obj} (h:w.heap[g]?=some o):w2.heap[g]?=some o :=
 (hb.block g (Jk.1 h).1).trans h
structure Enc (α:Type) where
 enc:α->List Value
 sz:Nat
 len:∀ a,(enc a).length=sz
 pos:0<sz
 one:∀ a,∀ u∈enc a,u.oneCell'=true
def SlR {α:Type} (E:Enc α) (w:Wd) (p:OA) (l:List α):Prop :=
 l=[]\/∃ b o,p=some ⟨b,o,none⟩/\b<w.heap.size/\∀ i (h:i<l.length),zw w ⟨b,o+i*E.sz,none⟩ (E.enc l[i])
section
variable {α:Type} {E:Enc α} {w w2:Wd} {p:OA} {l:List α}
theorem SlR.nil {E:Enc α} {w:Wd} {p:OA}:SlR E w p [] := .inl rfl
theorem SlR.at (h:SlR E w p l) {i:Nat} (hi:i<l.length):∃ b o,p=some ⟨b,o,none⟩/\b<w.heap.size/\∀ i (h:i<l.length),zw w ⟨b,o+i*E.sz,none⟩ (E.enc l[i]):=by
 rcases h with rfl | h
 ·simp at hi
 ·exact h
theorem SlR.below (h:SlR E w p l) (hb:Bw w w2):SlR E w2 p l:=by
 rcases h with rfl | ⟨b,o,hp,hlt,hc⟩
 ·exact .inl rfl
 ·exact .inr ⟨b,o,hp,nL hlt hb.size,fun i hi=>zt hb (hc i hi)⟩
theorem zfC (l:List α) (i:Nat) (hi:i<l.length):(((l.flatMap E.enc).drop (i*E.sz)).take E.sz)=E.enc l[i]:=by
 induction l generalizing i with
 | nil=>simp at hi
 | cons a r ih =>
  rw [KS]
  cases i with
  | zero=>simp [<- E.len a]
  | succ i =>
   have e:(i+1)*E.sz=(E.enc a).length+i*E.sz:=by rw [E.len,Gd];omega
   rw [e,<- Un,Uo];simpa using ih i (by simpa using hi)
theorem qP (l:List α):(l.flatMap E.enc).length=l.length*E.sz:=by
 induction l with
 | nil=>simp
 | cons a r ih=>rw [KS,lap,ih,E.len,Qs,Gd];omega
theorem zhH (l:List α):∀ u∈l.flatMap E.enc,u.oneCell'=true:=fun u hu=>by
 obtain⟨a,_,h⟩:=List.mem_flatMap.1 hu;exact E.one a u h
theorem SlR.of_cells {b o:Nat} (hb:b<w.heap.size) (h:zw w ⟨b,o,none⟩ (l.flatMap E.enc)):SlR E w (some ⟨b,o,none⟩) l :=
 .inr ⟨b,o,rfl,hb,fun i hi=>by rw [<- zfC l i hi];exact zV h⟩
theorem SlR.cells {b o:Nat} (h:SlR E w (some ⟨b,o,none⟩) l):zw w ⟨b,o,none⟩ (l.flatMap E.enc):=by
 rcases h with rfl | ⟨b',o',hp,hlt,hc⟩
 ·intro i v hv;simp at hv
 ·cases hp
  refine qQ fun j v hv=>?_;have hj:j<l.length*E.sz:=by rw [<- qP (E:=E) l];exact (Jq.1 hv).1
  have hs:=E.pos;have hd:j/E.sz<l.length:=Nat.div_lt_of_lt_mul (by rw [UV];exact hj);have h2:(E.enc l[j/E.sz])[j%E.sz]?=some v:=by
   rw [<- zfC l _ hd,Kx,Gz (Gn _ hs),Kw,UV,Ub];exact hv
  have h3:=zc (hc _ hd) h2
  rwa [UI,UV,Ub] at h3
def OwnS (E:Enc α) (T:TypeId) (B:Nat) (w:Wd) (p:OA) (cap:Nat) (l:List α):Prop :=
 w.ownsRow B T E.sz (.slice p l.length cap) l.length (l.flatMap E.enc)
theorem OwnS.nil {E:Enc α} {T B:Nat} {w:Wd}:OwnS E T B w none 0 []:=by
 unfold OwnS;exact World.ownsRow_nil _ _ _ _
theorem OwnS.inv {T B cap:Nat} (h:OwnS E T B w p cap l):(p=none/\cap=0/\l=[]) \/
  ∃ g cur,p=some ⟨g,0,none⟩/\B<=g/\w.heap[g]?=some (.cells cur T (0,0))/\l.length<=cap/\cap<=maxLen/\cur.size=cap*E.sz/\cur.toList.take (l.length*E.sz)=l.flatMap E.enc:=by
 obtain⟨h1,h2⟩:=h;rcases h2 with ⟨h2,h3⟩ | ⟨g,cap',cur,h2,hb,hg,hn,hm,hs,ht⟩
 ·simp only [Value.slice.injEq] at h2;exact .inl ⟨h2.1,h2.2.2,Jf h3⟩
 ·simp only [Value.slice.injEq,Gw] at h2;obtain⟨rfl,rfl⟩:=h2;exact .inr ⟨g,cur,rfl,hb,hg,hn,hm,hs,ht⟩
theorem OwnS.row {T B cap:Nat} (h:OwnS E T B w p cap l):SlR E w p l:=by
 rcases h.inv with ⟨_,_,rfl⟩ | ⟨g,cur,rfl,_,hg,_,_,_,ht⟩
 ·exact .inl rfl
 ·refine SlR.of_cells (Jk.1 hg).1 ?_;rw [<- ht];exact jD (o:=0) hg
theorem OwnS.kept {T B cap:Nat} (h:OwnS E T B w p cap l) {w':Wd} {row:Option Nat} (hg:w.grownBy w' row) (hne:∀ g,p=some ⟨g,0,none⟩->row≠some g):OwnS E T B w' p cap l:=by
 refine World.ownsRow.kept h hg ?_;rcases h.inv with ⟨rfl,_⟩ | ⟨g,_,rfl,_⟩
 ·exact .inl rfl
 ·exact .inr (fun e=>hne g rfl e.symm)
theorem OwnS.below {T B cap:Nat} (h:OwnS E T B w p cap l) (hb:Bw w w2):OwnS E T B w2 p cap l :=
 h.kept (row:=none) ⟨hb.os,hb.tape,hb.output,hb.size,fun k hk _=>hb.block k hk⟩ (fun _ _ h=>by cases h)
theorem OwnS.alloc {T B cap:Nat} (h:OwnS E T B w p cap l) (o:Obj):OwnS E T B (w.alloc o) p cap l :=
 h.below ((Gj _ w).alloc (Ge _) o)
theorem OwnS.drew {T B cap:Nat} (h:OwnS E T B w p cap l):OwnS E T B w.drew p cap l:=h.below (Gj _ w).drew
theorem jr {P:Program} {t T ty B cap m c:Nat} {a:Addr} {news:List α} {iT:TI} {z:List Value} (hu:P.underlying t=some (.slice T)) (hT:TIok P T iT) (hz:iT.zero=some z)
  (hs:iT.size=E.sz) (hzl:z.length=E.sz) (ho:OwnS E T B w p cap l) (hm:news.length=m) (hn:zw w a (news.flatMap E.enc)) (hB:B<=w.heap.size)
  (h1:l.length+m<=9223372036854775807) (h2:(l.length+m)*iT.bytes<=140737488355328) {K:Value->Wd->Prop}
  (k:∀ p' cap' w',OwnS E T B w' p' cap' (l++news)->w.grownBy w' (Value.slice p l.length cap).ownBlock->Below B w w' ->
   (∀ a,p'=some a->p=some a\/a.block=w.heap.size)->K (.slice p' (l++news).length cap') w') :
  SatR ((Builtin.append_ #[t,t] ty #[.slice p l.length cap,.slice (some a) m c]).run P w) K:=by
 obtain⟨⟨inf,hi,hsz,hby,hzz⟩,_⟩:=hT;obtain⟨zv,hzv,hzc⟩:=hzz z hz;have hown:=run_append_own_at (P:=P) w B t ty T inf zv E.sz iT.bytes hu hi hzv (hsz.trans hs) hby (by rw [<- hzl,<- hzc];simp) E.pos (.slice p l.length cap) l.length (l.flatMap E.enc) ho a m c (news.flatMap E.enc)
  (by rw [qP,hm]) hn (zhH news) (by unfold maxLen;omega) h2 hB
 obtain⟨v',w',hr,ho',hg,_,hat⟩:=hown;refine SatR.mk hr ?_;have hl:l.length+m=(l++news).length:=by simp [hm]
 have hf:l.flatMap E.enc++news.flatMap E.enc=(l++news).flatMap E.enc:=by rw [Kf]
 rw [hl,hf] at ho';have hb:Below B w w':=(Gj B w).grown hg hB (fun k e=>(QF ho k e).1);rcases ho'.2 with ⟨rfl,h0⟩ | ⟨g,cap',cur,rfl,qY⟩
 ·have:K (.slice none (l++news).length 0) w':=k none 0 w' (by unfold OwnS;rw [h0] at ho' ⊢;exact ho') hg hb (fun _ h=>by cases h);rw [h0] at this;exact this
 ·refine k _ _ w' ho' hg hb fun a ha=>?_
  cases ha
  rcases hat with h1 | h1
  ·rcases ho.inv with ⟨rfl,_⟩ | ⟨g',_,rfl,_⟩
   ·simp [Value.ownBlock] at h1
   ·simp [Value.ownBlock] at h1;exact .inl (by rw [h1])
  ·simp [Value.ownBlock] at h1;exact .inr h1
theorem OwnS.same {T B cap:Nat} (h:OwnS E T B w p cap l) {w':Wd} (hs:∀ a,p=some a->w'.heap[a.block]?=w.heap[a.block]?):OwnS E T B w' p cap l:=by
 obtain⟨h1,h2⟩:=h;refine⟨h1,?_⟩;rcases h2 with h2 | ⟨g,cap',cur,h2,hb,hg,qY⟩
 ·exact .inl h2
 ·refine .inr ⟨g,cap',cur,h2,hb,?_,qY⟩;simp only [Value.slice.injEq] at h2;rw [<- hg];exact hs _ h2.1
end
theorem zz (w:Wd) (o:Obj):(w.alloc o).heap[w.heap.size]?=some o:=by
 show (w.heap.push o)[w.heap.size]?=some o;simp
theorem qm {w:Wd} {i:Nat} {x:Obj} (o:Obj) (h:w.heap[i]?=some x):(w.alloc o).heap[i]?=some x:=by
 have hi:i<w.heap.size:=(Jk.1 h).1;show (w.heap.push o)[i]?=some x;rw [Array.getElem?_push,Gy (Nat.ne_of_lt hi)];exact h
theorem zcI {w:Wd} {i g:Nat} {x:Obj} (cs:Array Value) (hne:i≠g) (h:w.heap[i]?=some x):(w.setRow g cs).heap[i]?=some x:=by
 rw [setRow_other w g i cs hne];exact h
theorem hdr {w:Wd} {i:Nat} {x:Obj} (h:w.heap[i]?=some x):w.drew.heap[i]?=some x:=h
theorem hlt {w:Wd} {i:Nat} {x:Obj} (h:w.heap[i]?=some x):i<w.heap.size:=(Jk.1 h).1
theorem zr {P:Program} {w:Wd} {T g:Nat} {iT:TI} (hT:TIok P T iT) {cs:Array Value} {t:TypeId} (hg:w.heap[g]?=some (.cells cs t (0,0))) {v:Value} (hv:v.cells.size=iT.size)
  (hc:cs.size=iT.size) (h0:v.cells.toList.all Value.oneCell'=true) {K:Wd->Prop} (k:K (w.setRow g v.cells)):SatR ((storeVar T ⟨g,0,none⟩ v).run P w) fun _ w'=>K w':=by
 obtain⟨⟨inf,hi,hs,_,_⟩,_⟩:=hT;have h1:∀ u∈v.cells.toList,u.oneCell'=true:=Qj.1 h0;have hst:=Qd P g 0 t v.cells.toList 0 cs w hg (by simp;omega) h1;refine SatR.mk (v:=()) (w':=w.setRow g v.cells) ?_ k;have hsz:(sizeOf T).run P w = .ok iT.size w:=by simp [sizeOf,typeInfo,hi,hs]
 simp only [storeVar,Ga,hsz,Qa,hv,ne_eq,Qb,Gt];rw [hst];congr 2;apply Qe.1;simp [hc,hv]
theorem zm {w:Wd} {g:Nat} {cs cs':Array Value} {t:TypeId} {fr:Nat×Nat} (hg:w.heap[g]?=some (.cells cs t fr)):(w.setRow g cs').heap[g]?=some (.cells cs' t fr):=setRow_heap w g cs cs' t fr hg
theorem zo {w:Wd} {g k:Nat} {cs:Array Value} (h:k≠g):(w.setRow g cs).heap[k]?=w.heap[k]?:=setRow_other w g k cs h
theorem zj {B:Nat} {a w:Wd} (h:Below B a w) {g:Nat} (hg:B<=g) (cs:Array Value):Below B a (w.setRow g cs) :=
 h.trans ⟨rfl,rfl,rfl,by simp,fun k hk=>zo (by omega)⟩
theorem qA (w:Wd) (g:Nat) (cs:Array Value):w.grownBy (w.setRow g cs) (some g) :=
 ⟨rfl,rfl,rfl,by simp,fun k _ hne=>zo (fun e=>hne (by rw [e]))⟩
end Go.Vc
namespace Go.Sei
def zgt (c:UInt8):Bool:=(decide ((97:Int)<=c.toNat)&&decide ((c.toNat:Int)<=122))||(decide ((65:Int)<=c.toNat)&&decide ((c.toNat:Int)<=90))
def zhy (c:UInt8):Bool:=decide ((48:Int)<=c.toNat)&&decide ((c.toNat:Int)<=57)
def eqB (c:UInt8) (k:Int):Bool:=decide ((c.toNat:Int)=k)
def znc (c:UInt8):Bool:=eqB c 61||(eqB c 43||(eqB c 45||(eqB c 94||(eqB c 38||(eqB c 124||(eqB c 33||(eqB c 40||(eqB c 41||(eqB c 58||eqB c 60)))))))))
def qe (c:UInt8):Nat :=
 bif zgt c then 3 else bif zhy c then 4 else bif eqB c 32||eqB c 9 then 1 else bif eqB c 10 then 2 else bif eqB c 95 then 5 else bif eqB c 35 then 7 else bif znc c then 6 else 0
def qz (c:UInt8):Bool:=decide (qe c=3)||(decide (qe c=4)||decide (qe c=5))
def jS (p:UInt8->Bool):List UInt8->Nat
 | []=>0
 | c::r=>if p c then jS p r+1 else 0
theorem zj8 (p:UInt8->Bool):∀ l,jS p l<=l.length
 | []=>Ge _
 | c::r=>by
  unfold jS
  split
  ·exact Nat.succ_le_succ (zj8 p r)
  ·exact Gg _
def zjI (c:UInt8):Bool:=decide (qe c=1)
def zew (c:UInt8):Bool := !decide (qe c=2)
def zbH (c:UInt8):Bool:=decide (qe c=4)
def zcD (s:List UInt8) (a:Nat):Nat:=a+jS zjI (s.drop a)
def zL (s:List UInt8) (a:Nat):Nat :=
 match s[zcD s a]? with
 | some c=>if qe c=7 then zcD s a+jS zew (s.drop (zcD s a)) else zcD s a
 | none=>zcD s a
structure Tok where
 kind:UInt8
 text:List UInt8
 pos:Nat
 deriving DecidableEq
def zbd (s:List UInt8) (a:Nat) (c:UInt8):Nat :=
 if qe c=3 then a+1+jS qz (s.drop (a+1)) else if qe c=4 then a+1+jS zbH (s.drop (a+1)) else
  if (eqB c 61||eqB c 33)&&decide (s[a+1]?=some 61) then a+2 else a+1
def zgs (c:UInt8):UInt8:=if qe c=3 then 1 else if qe c=4 then 2 else 3
def zjZ (s:List UInt8) (a:Nat) (c:UInt8):Tok:=⟨zgs c,(s.drop a).take (zbd s a c-a),a⟩
def zae (s:List UInt8) (a:Nat):Bool:=match s[a]? with
 | some c=>decide (qe c=2)
 | none=>true
def zaC (s:List UInt8):Nat->Nat->Bool->Option (Tok×Nat×Bool)
 | 0,_,_=>none
 | f+1,a,op=>match s[zL s a]? with
  | some c=>if qe c=2 then (if op then some (⟨4,[],zL s a⟩,min (zL s a+1) s.length,false) else zaC s f (min (zL s a+1) s.length) false)
   else some (zjZ s (zL s a) c,zbd s (zL s a) c,true)
  | none=>if op then some (⟨4,[],zL s a⟩,min (zL s a+1) s.length,false) else none
def zcN (s:List UInt8):Nat->Nat->Bool->List Tok
 | 0,_,_=>[]
 | f+1,a,op=>match zaC s (s.length+2) a op with
  | some (t,a',op')=>t::zcN s f a' op'
  | none=>[]
def zjo (s:List UInt8):Bool:=decide (1<=s.length)&&(decide (s.length<=3)&&(!(decide (s.head?=some 48)&&decide (1<s.length))&&(s.all zbH&&decide (s.foldl (fun v c=>10*v+(c.toNat-48)) 0<=255))))
def jt (t:Tok):Int :=
 if t.kind=1 then (if 16<t.text.length then 42 else 0) else if t.kind=2 then (if zjo t.text then 0 else 41) else
 if t.kind=3 then (match t.text with | c::_=>if qe c=6 then 0 else 40 | []=>0) else 0
def qX (s:List UInt8):List Tok:=zcN s (2*s.length+3) 0 false
def zpk (l:List Tok) (s:List UInt8):Bool:=match l with
 | [t,_]=>decide (t.kind=1)&&decide (t.text=s)
 | _=>false
def zem (s:List UInt8):Bool:=decide (s.length<=16384)&&((qX s).all (fun t=>decide (jt t=0))&&zpk (qX s) s)
structure InsD where
 op:UInt8
 dst:UInt8
 loc:UInt8
 ar:Bool
 an:UInt8
 br:Bool
 bn:UInt8
 fn:UInt8
 mode:UInt8
 skip:UInt8
 deriving DecidableEq
inductive Cnd where
 | mk (kind thread n val:UInt8) (kids:List Cnd)
def Cnd.kind:Cnd->UInt8 | .mk k _ _ _ _=>k
def Cnd.thread:Cnd->UInt8 | .mk _ t _ _ _=>t
def Cnd.n:Cnd->UInt8 | .mk _ _ n _ _=>n
def Cnd.val:Cnd->UInt8 | .mk _ _ _ v _=>v
def Cnd.kids:Cnd->List Cnd | .mk _ _ _ _ l=>l
structure Prg where
 name:List UInt8
 locs:List (List UInt8)
 init:List UInt8
 threads:List (List InsD)
 ask:UInt8
 cond:Cnd
def ztx:List (List UInt8):=[[116,101,115,116],[105,110,105,116],[116,104,114,101,97,100],[115,111,109,101],[110,111,110,101],[97,108,108],[97,99,113],[114,101,108],[115,119,97,112],[102,101,116,99,104],[99,97,115],
 [102,101,110,99,101],[108,111,97,100,115],[115,116,111,114,101,115],[115,107,105,112],[105,102],[116,114,117,101]]
def zhx (s:List UInt8):Bool:=ztx.any fun k=>decide (s=k)
def qW (s:List UInt8):Nat:=(s.filter zbH).length
def zfq (s:List UInt8):Bool:=match s with
 | []=>false
 | c::r=>decide (r.length+1<=16)&&(decide (qe c=3)&&(!zhx (c::r)&&(r.all qz&&(!decide (c=114)||(decide (qW r=0)||decide (qW r<r.length))))))
def zeM:List (List UInt8)->List (List UInt8)->Bool
 | _,[]=>true
 | pre,s::r=>zfq s&&(!(pre.any fun q=>decide (q=s))&&zeM (pre++[s]) r)
def zfu (p:Prg):Bool:=decide (1<=p.locs.length)&&(decide (p.locs.length<=6)&&(decide (p.init.length=p.locs.length)&&zeM [] p.locs))
def zfo:List UInt8:=[0,35,38,29,7,7,15,32,92]
def jI (op bit:UInt8):Bool := !decide (zfo.getD op.toNat 0&&&bit=0)
def zgO (x:InsD):InsD where
 op:=x.op
 dst:=if jI x.op 1 then x.dst else 0
 loc:=if jI x.op 2 then x.loc else 0
 ar:=jI x.op 4&&x.ar
 an:=if jI x.op 4 then x.an else 0
 br:=jI x.op 8&&x.br
 bn:=if jI x.op 8 then x.bn else 0
 fn:=if jI x.op 16 then x.fn else 0
 mode:=if jI x.op 32 then x.mode else 0
 skip:=if jI x.op 64 then x.skip else 0
def zfr (x:InsD):Bool:=if x.op=1 then decide (x.mode=0)||decide (x.mode=1) else if x.op=2 then decide (x.mode=0)||decide (x.mode=2) else
 if x.op=7 then decide (x.mode=3)||(decide (x.mode=4)||decide (x.mode=5)) else true
def fnL (x:InsD):Bool:=if x.op=3 then decide (x.fn=1)||(decide (x.fn=2)||decide (x.fn=3)) else if x.op=8 then decide (x.fn=4)||(decide (x.fn=5)||decide (x.fn=6)) else true
def zmF (r:Bool) (n:UInt8):Bool := !r||decide (n.toNat<8)
def q6 (x:InsD) (locs after:Nat):List Bool:=[
 decide (1<=x.op.toNat)&&decide (x.op.toNat<=8),
 decide (x=zgO x),
 decide (x.dst.toNat<8),
 !jI x.op 2||decide (x.loc.toNat<locs),
 zmF x.ar x.an&&zmF x.br x.bn,
 zfr x,
 fnL x,
 !jI x.op 64||(decide (1<=x.skip.toNat)&&decide (x.skip.toNat<=after))]
def zqn (x:InsD) (locs after:Nat):Bool:=(q6 x locs after).all id
def jX (l:List InsD) (locs:Nat):Bool:=decide (l.length<=12)&&(List.range l.length).all fun i=>match l[i]? with
 | some x=>zqn x locs (l.length-1-i)
 | none=>true
def zaE (threads locs:Nat):Nat->Cnd->Bool
 | 0,_=>false
 | d+1,.mk k t n v kids =>
  let bare:=decide (t=0)&&(decide (n=0)&&decide (v=0))
  if k=0 then bare&&decide (kids.length=0) else
  if k=1 then decide (t.toNat<threads)&&(decide (n.toNat<8)&&decide (kids.length=0)) else
  if k=2 then decide (n.toNat<locs)&&(decide (t=0)&&decide (kids.length=0)) else
  if k=3\/k=4 then bare&&(decide (2<=kids.length)&&kids.all (zaE threads locs d)) else
  if k=5 then bare&&(decide (kids.length=1)&&kids.all (zaE threads locs d)) else false
def zhk (p:Prg):Bool:=zem p.name&&(zfu p&&((decide (1<=p.threads.length)&&(decide (p.threads.length<=4)&&p.threads.all fun l=>decide (l.length<=12))) &&
 (p.threads.all (fun l=>jX l p.locs.length)&&((decide (p.ask=1)||(decide (p.ask=2)||decide (p.ask=3)))&&zaE p.threads.length p.locs.length 20 p.cond))))
def els (s:Nat):List Nat:=(List.range 64).filter fun i=>s.testBit i
def ctz (s:Nat):Nat:=(els s).headD 64
def qY (s:Nat):Nat:=s&&&(s-1)
theorem zio {s:Nat} (h:s≠0):∃ k m,s=2^k*(2*m+1):=by
 induction s using Nat.strongRecOn with
 | _ s ih =>
  by_cases hp:s%2=1
  ·exact⟨0,s/2,by rw [Nat.pow_zero,Nat.one_mul];omega⟩
  ·obtain⟨k,m,e⟩:=ih (s/2) (by omega) (by omega);refine⟨k+1,m,?_⟩;rw [Nat.pow_succ,UV (2^k) 2,UJ,<- e];omega
theorem zea (k a j:Nat):(2^k*a).testBit j=(decide (k<=j)&&a.testBit (j-k)):=by
 rw [Nat.testBit_two_pow_mul]
theorem zfL (m j:Nat):(2*m+1).testBit j=match j with | 0=>true | j+1=>m.testBit j:=by
 cases j with
 | zero=>rw [Nat.testBit_zero];simp
 | succ j=>rw [Nat.testBit_succ];congr 1;omega
theorem zlo (m j:Nat):(2*m).testBit j=match j with | 0=>false | j+1=>m.testBit j:=by
 cases j with
 | zero=>rw [Nat.testBit_zero];simp
 | succ j=>rw [Nat.testBit_succ];congr 1;omega
theorem zlX (k m:Nat):qY (2^k*(2*m+1))=2^k*(2*m):=by
 unfold qY;apply Ka;intro j;have h1:=Ue k;have e:2^k*(2*m+1)-1=2^k*(2*m)+(2^k-1):=by rw [Nat.mul_add,Gf];omega
 rw [Ud,e,Nat.testBit_two_pow_mul_add _ (by omega),zea,zea];by_cases hj:j<k
 ·rw [Gz hj];have:¬ k<=j:=by omega
  simp [this]
 ·rw [Gy hj,zfL,zlo];have:k<=j:=by omega
  cases h:j-k with
  | zero=>simp
  | succ i=>simp [this]
theorem zhn {n k m:Nat} (hn:0<n) (h:2^k*(2*m+1)<2^n):(2^k*(2*m+1))&&&(2^n-2^k*(2*m+1))=2^k:=by
 have hk:k<n:=by
  apply Qz;intro hk;have h1:2^n<=2^k:=Kb (by decide) hk;have h2:2^k*1<=2^k*(2*m+1):=Nat.mul_le_mul_left _ (by omega);omega
 have h1:=Ue k;have e64:2^n=2^k*2^(n-k):=by rw [<- Nat.pow_add];congr 1;omega
 have e63:2^(n-k)=2*2^(n-1-k):=by rw [<- Nat.pow_succ'];congr 1;omega
 have hm:2*m+1<2^(n-k):=by
  rw [e64] at h;exact Nat.lt_of_mul_lt_mul_left h
 have hm2:m<2^(n-1-k):=by omega
 have e:2^n-2^k*(2*m+1)=2^k*(2*(2^(n-1-k)-(m+1))+1):=by
  rw [e64,<- Nat.mul_sub];congr 1;omega
 rw [e];apply Ka;intro j;rw [Ud,zea,zea,zfL,zfL,Kn];by_cases hj:k<=j
 ·cases h:j-k with
  | zero =>
   have:k=j:=by omega
   simp [this]
  | succ i =>
   have:k≠j:=by omega
   show ((decide (k<=j)&&m.testBit i)&&(decide (k<=j)&&(2^(n-1-k)-(m+1)).testBit i))=decide (k=j);rw [Nat.testBit_two_pow_sub_succ hm2]
   cases m.testBit i <;> simp [this]
 ·have:k≠j:=by omega
  simp [hj,this]
theorem ziI {k m:Nat} (h:2^k*(2*m+1)<2^64):(2^k*(2*m+1))&&&(2^64-2^k*(2*m+1))=2^k:=zhn (by decide) h
theorem zk1 {p:Nat->Bool} {n k:Nat} (hk:k<n) (h1:∀ i,i<k->p i=false) (h2:p k=true) :
  (List.range n).filter p=k::(List.range n).filter (fun i=>p i&&decide (i≠k)):=by
 have e:List.range n=List.range k++k::(List.range (n-k-1)).map (fun i=>k+1+i):=by
  apply List.ext_getElem
  ·simp;omega
  ·intro i h1 h2;rw [Ky];by_cases hi:i<k
   ·rw [List.getElem_append_left (by simpa using hi)];simp
   ·obtain⟨j,rfl⟩:∃ j,i=k+j:=⟨i-k,by omega⟩;rw [List.getElem_append_right (by simp)];simp only [KV,Jw]
    cases j with
    | zero=>simp
    | succ j=>simp;omega
 rw [e,Kv,Kv,Qn,Qn];have f1:(List.range k).filter p=[]:=by
  rw [JB];intro i hi;rw [h1 i (Ur.1 hi)];decide
 have f2:(List.range k).filter (fun i=>p i&&decide (i≠k))=[]:=by
  rw [JB];intro i hi;rw [h1 i (Ur.1 hi)];simp
 rw [f1,f2,h2];simp only [QW,Gx,ne_eq,Qb,Gc,Uk,Kt,Gt];congr 1;apply KR;intro x hx;obtain⟨i,_,rfl⟩:=UP.1 hx;have:k+1+i≠k:=by omega
 simp [this]
theorem jO {s:Nat} (h0:s≠0) (h:s<2^64):els s=ctz s::els (qY s)/\qY s<s/\s&&&(2^64-s)=2^ctz s/\ctz s<64:=by
 obtain⟨k,m,e⟩:=zio h0;subst e;have h1:=Ue k;have hk:k<64:=by
  apply Qz;intro hk;have h2:2^64<=2^k:=Kb (by decide) hk;have h3:2^k*1<=2^k*(2*m+1):=Nat.mul_le_mul_left _ (by omega);omega
 have hh:els (2^k*(2*m+1))=k::els (2^k*(2*m)):=by
  unfold els;rw [zk1 hk]
  ·congr 1;apply KR;intro i _;rw [zea,zea,zfL,zlo]
   cases hi:i-k with
   | zero =>
    by_cases hik:k<=i
    ·have:i=k:=(by omega);simp [this]
    ·simp [hik]
   | succ j =>
    have:i≠k:=(by omega);simp [this]
  ·intro i hi;rw [zea];have:¬ k<=i:=by omega
   simp [this]
  ·rw [zea,zfL];simp
 have hc:ctz (2^k*(2*m+1))=k:=by unfold ctz;rw [hh];rfl
 rw [hc,zlX];refine⟨hh,?_,ziI h,hk⟩;rw [Nat.mul_add,Gf];omega
theorem zhM {s:Nat} (h0:s≠0) (h:s<2^32):s&&&(2^32-s)=2^ctz s/\ctz s<32:=by
 obtain⟨h1,_,h2,h3⟩:=jO h0 (nL h (by decide));have hc:ctz s<32:=by
  have hm:ctz s∈els s:=by rw [h1];exact Kz
  unfold els at hm;have hb:=(QV.1 hm).2;apply Qz;intro hc;have:=JF (nL h (Kb (by decide) hc));rw [this] at hb;cases hb
 refine⟨?_,hc⟩;obtain⟨k,m,e⟩:=zio h0;have h4:s&&&(2^64-s)=2^k:=by rw [e] at h ⊢;exact ziI (nL h (by decide))
 have h5:s&&&(2^32-s)=2^k:=by rw [e] at h ⊢;exact zhn (by decide) h
 rw [h5,<- h4,h2]
theorem zce:els 0=[]:=by
 unfold els;rw [JB];intro i _;simp
theorem zmr {s i:Nat} (h:i∈els s):i<64:=by
 unfold els at h;exact Ur.1 (QV.1 h).1
theorem zbr {s i:Nat}:i∈els s↔i<64/\s.testBit i=true:=by
 unfold els;rw [QV,Ur]
structure Ev where
 th:Int
 k:UInt8
 l:UInt8
 v:UInt8
 m:UInt8
 i:UInt8
 p:UInt8
 deriving DecidableEq
def upd {α:Type} (f:Nat->α) (i:Nat) (v:α):Nat->α:=fun j=>if j=i then v else f j
theorem ji {α:Type} (f:Nat->α) (i:Nat) (v:α):upd f i v i=v:=by unfold upd;rw [Gz rfl]
theorem za3 {α:Type} (f:Nat->α) {i j:Nat} (v:α) (h:j≠i):upd f i v j=f j:=by unfold upd;rw [Gy h]
structure RunD where
 pc:Nat
 regs:Nat->UInt8
 deps:Nat->Nat
 ctl:Nat
 many:Nat
 ev:Nat->Ev
 data:Nat->Nat
 ctrl:Nat->Nat
 att:Nat->Nat
def ev0:Ev:=⟨0,0,0,0,0,0,0⟩
def zn9:RunD:=⟨0,fun _=>0,fun _=>0,0,0,fun _=>ev0,fun _=>0,fun _=>0,fun _=>0⟩
def zbs (r:Bool) (n:UInt8) (R:RunD):UInt8×Nat:=if r then (R.regs n.toNat,R.deps n.toNat) else (n,0)
def zpw (R:RunD) (d v:UInt8) (s:Nat):RunD:={ R with regs:=upd R.regs d.toNat v,deps:=upd R.deps d.toNat s }
def zcB (R:RunD) (k l v m:UInt8) (d:Nat):RunD :=
 { R with ev:=upd R.ev R.many ⟨0,k,l,v,m,UInt8.ofNat R.pc,UInt8.ofNat R.many⟩,data:=upd R.data R.many d,ctrl:=upd R.ctrl R.many R.ctl,many:=R.many+1 }
def ztv (R:RunD) (x:InsD) (v:UInt8):RunD:=zpw (zcB R 1 x.loc v x.mode 0) x.dst v (2^R.many)
def zpr (R:RunD) (x:InsD):RunD:=zcB R 2 x.loc (zbs x.ar x.an R).1 x.mode (zbs x.ar x.an R).2
def zwF (fn a b:UInt8):UInt8:=if fn=1 then a+b else if fn=2 then a-b else a ^^^ b
def zws (R:RunD) (x:InsD):RunD:=zpw R x.dst (zwF x.fn (zbs x.ar x.an R).1 (zbs x.br x.bn R).1) ((zbs x.ar x.an R).2|||(zbs x.br x.bn R).2)
def zqG (R:RunD) (x:InsD) (old v:UInt8) (d:Nat):RunD :=
 let S:=zcB (zcB R 1 x.loc old 3 0) 2 x.loc v 3 d
 zpw { S with att:=upd S.att (R.many+1) (2^R.many) } x.dst old (2^R.many)
def zvL (R:RunD) (x:InsD) (v:UInt8):RunD:=zqG R x v (zbs x.ar x.an R).1 (zbs x.ar x.an R).2
def zuy (R:RunD) (x:InsD) (v:UInt8):RunD :=
 let S:=zqG R x v (v+(zbs x.ar x.an R).1) (zbs x.ar x.an R).2
 { S with data:=upd S.data (R.many+1) (S.data (R.many+1)|||S.att (R.many+1)) }
def zxv (R:RunD) (x:InsD) (v:UInt8):RunD :=
 if v=(zbs x.ar x.an R).1 then
  let S:=zqG R x v (zbs x.br x.bn R).1 (zbs x.br x.bn R).2
  { S with ctrl:=upd S.ctrl (R.many+1) (S.ctrl (R.many+1)|||(S.att (R.many+1)|||(zbs x.ar x.an R).2)) }
 else zpw (zcB R 1 x.loc v 3 0) x.dst v (2^R.many)
def zqC (R:RunD) (x:InsD):RunD:=zcB R 3 0 0 x.mode 0
def zvF (fn a b:UInt8):Bool:=if fn=4 then decide (a=b) else if fn=5 then !decide (a=b) else decide (a.toNat<b.toNat)
def zvM (R:RunD) (x:InsD):RunD :=
 let S:={ R with ctl:=R.ctl|||((zbs x.ar x.an R).2|||(zbs x.br x.bn R).2) }
 if zvF x.fn (zbs x.ar x.an R).1 (zbs x.br x.bn R).1 then { S with pc:=R.pc+x.skip.toNat } else S
def zoL (R:RunD) (x:InsD) (v:UInt8):RunD :=
 if x.op=1 then ztv R x v else if x.op=2 then zpr R x else if x.op=3 then zws R x else if x.op=4 then zvL R x v else
 if x.op=5 then zuy R x v else if x.op=6 then zxv R x v else if x.op=7 then zqC R x else zvM R x
def qw (R:RunD) (x:InsD) (v:UInt8):RunD:=let S:=zoL R x v;{ S with pc:=S.pc+1 }
def zeH (x:InsD):Bool:=decide (x.op=1)||(decide (x.op=4)||(decide (x.op=5)||decide (x.op=6)))
def goR (l:List InsD):Nat->RunD->RunD
 | 0,R=>R
 | n+1,R=>match l[R.pc]? with
  | none=>R
  | some x=>if zeH x then R else goR l n (qw R x 0)
def qh (l:List InsD) (dom:List UInt8):Nat->RunD->List RunD
 | 0,R=>[goR l l.length R]
 | n+1,R=>match l[(goR l l.length R).pc]? with
  | none=>[goR l l.length R]
  | some x=>dom.flatMap fun v=>qh l dom n (qw (goR l l.length R) x v)
def zaD (l:List InsD) (dom:List UInt8):List RunD:=qh l dom l.length zn9
def zhc (f:Nat->Nat) (n:Nat):List (Nat×Nat):=(List.range n).flatMap fun i=>(els (f i)).map fun a=>(a,i)
structure PathD where
 ev:List Ev
 data:List (Nat×Nat)
 ctrl:List (Nat×Nat)
 rmw:List (Nat×Nat)
 regs:Nat->UInt8
def zcS (R:RunD):PathD:=⟨(List.range R.many).map R.ev,zhc R.data R.many,zhc R.ctrl R.many,zhc R.att R.many,R.regs⟩
def qo:List UInt8:=(List.range 256).map UInt8.ofNat
def zar (rs:List RunD):List UInt8:=qo.filter fun v=>rs.any fun R=>(List.range R.many).any fun i=>decide ((R.ev i).k=2)&&decide ((R.ev i).v=v)
structure RelD where
 n:Int
 to:Nat->Nat
def zp:RelD:=⟨0,fun _=>0⟩
def jx (n:Int):Nat:=if n<1 then 0 else if 64<=n then 18446744073709551615 else 2^n.toNat-1
def zao (a b:Nat):Nat:=a&&&(18446744073709551615-b)
def zb4 (r:RelD) (a:Nat):Bool:=decide (zao (r.to a) (jx r.n)=0)&&(decide ((a:Int)<r.n)||decide (r.to a=0))
def okR (r:RelD):Bool:=decide (0<=r.n)&&(decide (r.n<=48)&&(List.range 48).all (zb4 r))
def ju (n:Nat) (f:Nat->Nat):RelD:=⟨n,fun i=>if i<n then f i else 0⟩
def zdi (to:Nat->Nat) (s:Nat):Nat:=(els s).foldl (fun t a=>t|||to a) 0
def zaO (to:Nat->Nat) (n:Nat):Nat->Nat:=(List.range n).foldl (fun f a=>(els (to a)).foldl (fun f b=>upd f b (f b|||2^a)) f) (fun _=>0)
def qE (r:RelD):RelD:=if okR r then ⟨r.n,zaO r.to r.n.toNat⟩ else zp
def zkX (r:RelD):Nat:=if okR r then (List.range r.n.toNat).foldl (fun s a=>if r.to a=0 then s else s|||2^a) 0 else 0
def zaS (r:RelD):Bool:=okR r&&decide (zkX r=0)
def comb (a b:RelD) (f:Nat->Nat):RelD×Int:=if a.n=b.n&&(okR a&&okR b) then (ju a.n.toNat f,0) else (zp,2)
def zK (a b:RelD):RelD×Int:=comb a b fun i=>a.to i|||b.to i
def qK (a b:RelD):RelD×Int:=comb a b fun i=>a.to i&&&b.to i
def zdU (a b:RelD):RelD×Int:=comb a b fun i=>zao (a.to i) (b.to i)
def qf (a b:RelD):RelD×Int:=comb a b fun i=>zdi b.to (a.to i)
def zcA (before:Nat->Nat) (left:Nat):Option Nat:=(els left).find? fun a=>decide (before a&&&left=0)
def zi1 (before:Nat->Nat):Nat->Nat->List Nat->Option (List Nat)
 | 0,left,l=>if left=0 then some l else none
 | n+1,left,l=>if left=0 then some l else match zcA before left with
  | none=>none
  | some a=>zi1 before n (zao left (2^a)) (l++[a])
def ze3 (r:RelD):Option (List Nat):=if okR r then zi1 (qE r).to 64 (jx r.n) [] else none
def jg (r:RelD):Bool:=(ze3 r).isSome
def zaU (n:Nat) (a b:Nat):RelD:=ju n fun x=>if a.testBit x then b&&&jx n else 0
def idR (n:Nat) (s:Nat):RelD:=ju n fun a=>s&&&2^a
def zcX (before:Nat->Nat):Nat->Nat->List Nat->List (List Nat)
 | 0,left,l=>if left=0 then [l] else []
 | n+1,left,l=>if left=0 then [l] else (els left).flatMap fun a=>if before a&&&left=0 then zcX before n (zao left (2^a)) (l++[a]) else []
def zdE (r:RelD):List (List Nat):=if jg r then zcX (qE r).to 64 (jx r.n) [] else []
def zaT:List Nat->Nat->List Nat
 | [],_=>[]
 | n::ns,j=>j%n::zaT ns (j/n)
def ql:List Nat->Nat
 | []=>1
 | n::ns=>n*ql ns
def zcf (sizes:List Nat):List (List Nat):=(List.range (ql sizes.reverse)).map fun j=>(zaT sizes.reverse j).reverse
theorem zfH:∀ (rs:List Nat) (j:Nat),(zaT rs j).length=rs.length
 | [],_=>rfl
 | n::ns,j=>by
  show (zaT ns (j/n)).length+1=ns.length+1;rw [zfH ns]
theorem ziQ:∀ rs:List Nat,zaT rs 0=List.replicate rs.length 0
 | []=>rfl
 | n::ns=>by
  show 0%n::zaT ns (0/n)=0::List.replicate ns.length 0;rw [Nat.zero_mod,Nat.zero_div,ziQ ns]
theorem ziw:∀ {rs:List Nat},(∀ n∈rs,n≠0)->0<ql rs
 | [],_=>Nat.one_pos
 | n::ns,h=>Nat.mul_pos (by have:=h n (by simp);omega) (ziw fun m hm=>h m (by simp [hm]))
theorem zeJ:∀ {rs:List Nat},0∈rs->ql rs=0
 | [],h=>by cases h
 | n::ns,h=>by
  show n*ql ns=0;rcases UG.1 h with h | h
  ·rw [<- h,UZ]
  ·rw [zeJ h,Nat.mul_zero]
theorem zgb {n j:Nat} (hn:n≠0):(j%n=n-1->(j+1)%n=0/\(j+1)/n=j/n+1)/\(j%n≠n-1->(j+1)%n=j%n+1/\(j+1)/n=j/n):=by
 have h1:=Ub j n;have h2:=Gn j (KG hn);obtain⟨q,hq⟩:∃ q,j/n=q:=⟨_,rfl⟩;obtain⟨m,hm⟩:∃ m,j%n=m:=⟨_,rfl⟩;rw [hq,hm] at h1 ⊢;rw [hm] at h2;refine⟨fun h=>?_,fun h=>?_⟩
 ·have e:j+1=n*(q+1):=by rw [Nat.mul_add];omega
  rw [e];exact⟨Nat.mul_mod_right _ _,Nat.mul_div_cancel_left _ (KG hn)⟩
 ·have e:j+1=n*q+(m+1):=by omega
  rw [e,Nat.mul_add_mod,QC (by omega),Nat.mul_add_div (KG hn),Nat.div_eq_of_lt (by omega)];exact⟨rfl,rfl⟩
def zh3 (rs:List Nat) (j t:Nat):Prop:=∃ A ns k,rs=A++ns/\A.length=t/\zaT rs (j+1)=List.replicate t 0++zaT ns (k+1)/\(zaT rs j).drop t=zaT ns k/\ql A*(k+1)=j+1
theorem zei:∀ A B:List Nat,ql (A++B)=ql A*ql B
 | [],B=>(Nat.one_mul _).symm
 | n::A,B=>by
  show n*ql (A++B)=n*ql A*ql B;rw [zei A B,UJ]
theorem zmx (rs:List Nat) (j:Nat):zh3 rs j 0:=⟨[],rs,j,rfl,rfl,rfl,rfl,Nat.one_mul _⟩
theorem zmz {rs:List Nat} {j t:Nat} (hr:∀ n∈rs,n≠0) (h:zh3 rs j t) {n d:Nat} (hn:rs[t]?=some n) (hd:(zaT rs j)[t]?=some d) (he:d=n-1):zh3 rs j (t+1):=by
 obtain⟨A,ns,k,h1,h2,h3,h4,h5⟩:=h
 cases ns with
 | nil =>
  rw [h1,QM,JJ (by omega)] at hn
  cases hn
 | cons m ns =>
  have hm:m=n:=by
   rw [h1,Jl (by omega),h2,UW] at hn;exact Ug hn
  subst hm;have hd2:k%m=d:=by
   have:=Gs (fun l=>l[0]?) h4;simp only [Kw,UR] at this;rw [hd] at this;exact (Ug this).symm
  have hm0:m≠0:=hr m (by rw [h1];simp);obtain⟨e1,e2⟩:=(zgb hm0).1 (hd2.trans he);have hk:k+1=m*(k/m+1):=by
   have:=Ub (k+1) m;rw [e1,e2] at this;omega
  refine⟨A++[m],ns,k/m,by rw [h1];simp,by simp [h2],?_,?_,?_⟩
  ·rw [h3];show _++((k+1)%m::zaT ns ((k+1)/m))=_;rw [e1,e2,List.replicate_succ',KO];rfl
  ·rw [<- Un,h4];rfl
  ·rw [<- h5,zei];show ql A*(m*1)*_=_;rw [Gf,UJ,<- hk]
theorem zmy {rs:List Nat} {j t:Nat} (hr:∀ n∈rs,n≠0) (h:zh3 rs j t) {n d:Nat} (hn:rs[t]?=some n) (hd:(zaT rs j)[t]?=some d) (he:d≠n-1):zaT rs (j+1)=List.replicate t 0++(d+1)::(zaT rs j).drop (t+1):=by
 obtain⟨A,ns,k,h1,h2,h3,h4,h5⟩:=h
 cases ns with
 | nil =>
  rw [h1,QM,JJ (by omega)] at hn
  cases hn
 | cons m ns =>
  have hm:m=n:=by
   rw [h1,Jl (by omega),h2,UW] at hn;exact Ug hn
  subst hm;have hd2:k%m=d:=by
   have:=Gs (fun l=>l[0]?) h4;simp only [Kw,UR] at this;rw [hd] at this;exact (Ug this).symm
  have hm0:m≠0:=hr m (by rw [h1];simp);obtain⟨e1,e2⟩:=(zgb hm0).2 (fun h=>he (hd2.symm.trans h));rw [h3,<- Un,h4];show _++((k+1)%m::zaT ns ((k+1)/m))=_;rw [e1,e2,hd2];rfl
theorem zoW {rs:List Nat} {j:Nat} (h:zh3 rs j rs.length) (hj:j<ql rs):j+1=ql rs:=by
 obtain⟨A,ns,k,h1,h2,h3,h4,h5⟩:=h;have hl:=Gs List.length h1;rw [lap,h2] at hl;have:ns=[]:=List.length_eq_zero_iff.1 (by omega);subst this;rw [QM] at h1;rw [h1] at hj ⊢;have h6:ql A*(k+1)<=ql A:=by omega
 rcases Nat.eq_zero_or_pos (ql A) with h0 | h0
 ·omega
 ·have:k+1<=1:=Nat.le_of_mul_le_mul_left (by omega:ql A*(k+1)<=ql A*1) h0;have:k=0:=by omega
  subst this;omega
theorem zmA {rs:List Nat} {j t:Nat} (hr:∀ n∈rs,n≠0) (h:zh3 rs j t) {n d:Nat} (hn:rs[t]?=some n) (hd:(zaT rs j)[t]?=some d) (he:d≠n-1) (hj:j<ql rs):j+1<ql rs:=by
 obtain⟨A,ns,k,h1,h2,h3,h4,h5⟩:=h
 cases ns with
 | nil =>
  rw [h1,QM,JJ (by omega)] at hn
  cases hn
 | cons m ns =>
  have hm:m=n:=by
   rw [h1,Jl (by omega),h2,UW] at hn;exact Ug hn
  subst hm;have hd2:k%m=d:=by
   have:=Gs (fun l=>l[0]?) h4;simp only [Kw,UR] at this;rw [hd] at this;exact (Ug this).symm
  have hm0:m≠0:=hr m (by rw [h1];simp);obtain⟨e1,e2⟩:=(zgb hm0).2 (fun h=>he (hd2.symm.trans h));apply Jn;intro hc;have hP:ql rs=ql A*(m*ql ns):=by rw [h1,zei];rfl
  have hA:0<ql A:=by
   apply KG;intro h0;rw [hP,h0,UZ] at hj;omega
  have h6:ql A*(k+1)=ql A*(m*ql ns):=by omega
  have h7:=Nat.eq_of_mul_eq_mul_left hA h6;rw [h7,Nat.mul_mod_right] at e1;omega
theorem zis {L:List Nat} {t d:Nat} (h:L[t]?=some d):(List.replicate t 0++L.drop t).reverse=(L.drop (t+1)).reverse++d::(List.replicate t 0).reverse:=by
 obtain⟨ht,rfl⟩:=Jq.1 h;rw [<- JD ht,Kl,KW,KO];rfl
theorem zt1 {L:List Nat} {t d:Nat} (h:L[t]?=some d) {i:Nat} (hi:i+t+1=L.length):(List.replicate t 0++L.drop t).reverse[i]?=some d:=by
 rw [zis h,Jl (by simp;omega)];have:i-(L.drop (t+1)).reverse.length=0:=by simp;omega
 rw [this];rfl
theorem zmY {L:List Nat} {t d:Nat} (h:L[t]?=some d) {i:Nat} (hi:i+t+1=L.length) (v:Nat):((List.replicate t 0++L.drop t).reverse).set i v=(List.replicate t 0++v::L.drop (t+1)).reverse:=by
 rw [zis h,JP _ _ (by simp;omega)];have:i-(L.drop (t+1)).reverse.length=0:=by simp;omega
 rw [this,Kl,KW,KO];rfl
theorem zpI {L:List Nat} {t:Nat}:(List.replicate t 0++0::L.drop (t+1)).reverse=(List.replicate (t+1) 0++L.drop (t+1)).reverse:=by
 rw [List.replicate_succ',KO];rfl
structure ExD where
 ev:List Ev
 po:RelD
 rf:RelD
 co:RelD
 dt:RelD
 ct:RelD
 rm:RelD
 regs:Nat->UInt8
 mem:Nat->UInt8
structure MixD where
 base:ExD
 rs:List (Nat×List Nat)
 wr:List (List Nat)
def zeG (n:Nat):RelD:=⟨n,fun _=>0⟩
def ex0 (n:Nat):ExD:=⟨[],zeG n,zeG n,zeG n,zeG n,zeG n,zeG n,fun _=>0,fun _=>0⟩
def zki (b:Nat):List (Nat×Nat)->(Nat->Nat)->Nat->Nat
 | [],f=>f
 | p::ps,f=>zki b ps (upd f (b+p.1) (f (b+p.1)|||2^(b+p.2)))
def zlY (b:Nat) (ps:List (Nat×Nat)) (r:RelD):RelD:=⟨r.n,zki b ps r.to⟩
def zg9 (a:Int):Nat->List Ev->Nat->Nat
 | _,[],s=>s
 | j,e::es,s=>zg9 a (j+1) es (if e.th=a then s|||2^j else s)
def zcv (ev:List Ev) (i:Nat):Nat:=match ev[i]? with
 | none=>0
 | some e=>if e.th = -1 then 0 else zg9 e.th (i+1) (ev.drop (i+1)) 0
def poR (ev:List Ev):RelD:=⟨ev.length,zcv ev⟩
def j4:Nat->List UInt8->List Ev
 | _,[]=>[]
 | l,v::vs=>⟨-1,2,UInt8.ofNat l,v,0,0,0⟩::j4 (l+1) vs
def zeB (k:Nat) (l:List Ev):List Ev:=l.map fun e=>{ e with th:=k }
def zjK (x:ExD) (k:Nat) (P:PathD):ExD :=
 { x with ev:=x.ev++zeB k P.ev,dt:=zlY x.ev.length P.data x.dt,ct:=zlY x.ev.length P.ctrl x.ct,rm:=zlY x.ev.length P.rmw x.rm,regs:=fun i=>if i/8=k then P.regs (i%8) else x.regs i }
def asR:Nat->List PathD->ExD->ExD
 | _,[],x=>x
 | k,P::Ps,x=>asR (k+1) Ps (zjK x k P)
def zpu (locs:Nat) (Ps:List PathD):Nat:=Ps.foldl (fun n P=>n+P.ev.length) locs
def znQ:Nat->List Ev->List (List Nat)->List (List Nat)
 | _,[],W=>W
 | i,e::es,W=>znQ (i+1) es (if e.k=2 then W.set e.l.toNat (W.getD e.l.toNat []++[i]) else W)
def zh8 (all:List Ev) (W:List (List Nat)):Nat->List Ev->List (Nat×List Nat)
 | _,[]=>[]
 | i,e::es=>if e.k=1 then (i,(W.getD e.l.toNat []).filter fun w=>decide ((all.getD w ev0).v=e.v))::zh8 all W (i+1) es else zh8 all W (i+1) es
def zq6 (init:List UInt8) (Ps:List PathD):ExD :=
 let x:=asR 0 Ps { ex0 (zpu init.length Ps) with ev:=j4 0 init }
 { x with po:=poR x.ev }
def zax (x:ExD) (locs:Nat):MixD :=
 let W:=znQ 0 x.ev (List.replicate locs [])
 ⟨x,zh8 x.ev W 0 x.ev,W⟩
def zkE (init:List UInt8) (Ps:List PathD):Option MixD:=if zpu init.length Ps<=48 then some (zax (zq6 init Ps) init.length) else none
def zld (lim:Nat):List (List Nat)->Nat->Option Nat
 | [],n=>some n
 | f::fs,n=>if f=[] then none else zld lim fs (min (n*f.length) lim)
def zle (lim len:Nat):Nat->Nat->Nat->Nat
 | 0,_,n=>n
 | m+1,k,n=>if k<len then zle lim len m (k+1) (min (n*k) lim) else n
def zjE (lim:Nat):List (List Nat)->Nat->Nat
 | [],n=>n
 | l::ls,n=>zjE lim ls (zle lim l.length l.length 2 n)
def zd8 (m:MixD) (lim:Nat):Nat:=match zld lim (m.rs.map (·.2)) 1 with
 | none=>0
 | some n=>zjE lim m.wr n
def zaL (w:List Nat):List (List Nat) :=
 let l:=zdE (zaU w.length 1 (zao (jx w.length) 1))
 if l.length<=10000 then l.map fun o=>o.map fun k=>w.getD k 0 else []
def znf:List Nat->(Nat->Nat)->Nat->(Nat->Nat)
 | [],f,_=>f
 | a::l,f,b=>znf l (upd f a b) (b|||2^a)
def zbw (l:List Nat) (r:RelD):RelD:=⟨r.n,znf l.reverse r.to 0⟩
def rfF:List (Nat×List Nat)->List Nat->(Nat->Nat)->Nat->Nat
 | [],_,f=>f
 | (r,s)::rs,ds,f=>rfF rs ds.tail (upd f (s.getD (ds.headD 0) 0) (f (s.getD (ds.headD 0) 0)|||2^r))
def coG (ev:List Ev):Nat->List (List (List Nat))->List Nat->RelD×(Nat->UInt8)->RelD×(Nat->UInt8)
 | _,[],_,p=>p
 | l,R::Rs,ds,p=>coG ev (l+1) Rs ds.tail (zbw (R.getD (ds.headD 0) []) p.1,upd p.2 l (ev.getD ((R.getD (ds.headD 0) []).getLastD 0) ev0).v)
def zbf (m:MixD) (ds:List Nat):ExD :=
 let c:=coG m.base.ev 0 (m.wr.map zaL) (ds.drop m.rs.length) (m.base.co,m.base.mem)
 { m.base with rf:=⟨m.base.rf.n,rfF m.rs ds m.base.rf.to⟩,co:=c.1,mem:=c.2 }
def zbE (m:MixD):List Nat:=m.rs.map (fun r=>r.2.length)++m.wr.map fun w=>(zaL w).length
def zgf (m:MixD):List ExD:=(zcf (zbE m)).map (zbf m)
def zcw (Ts:List (List PathD)):List Nat->List PathD
 | []=>[]
 | d::ds=>match Ts with
  | []=>[]
  | T::Ts=>(match T[d]? with | some P=>[P] | none=>[])++zcw Ts ds
theorem znu:∀ (rs:List Nat) (j:Nat),(∀ n∈rs,n≠0)->∀ (i n d:Nat),rs[i]?=some n->(zaT rs j)[i]?=some d->d<n
 | [],_,_,_,_,_,h,_=>by simp at h
 | m::rs,j,h0,0,n,d,h,hd=>by
  have h:m=n:=by simpa using h
  have hd:j%m=d:=by simpa [zaT] using hd
  subst h;subst hd;exact Gn _ (KG (h0 m (by simp)))
 | m::rs,j,h0,i+1,n,d,h,hd=>znu rs (j/m) (fun n hn=>h0 n (by simp [hn])) i n d (by simpa using h) (by simpa [zaT] using hd)
theorem znt {sizes ds:List Nat} (h:ds∈zcf sizes):ds.length=sizes.length/\∀ (i n d:Nat),sizes[i]?=some n->ds[i]?=some d->d<n:=by
 unfold zcf at h;obtain⟨j,hj,rfl⟩:=UP.1 h;have hj:=Ur.1 hj;have h0:∀ n∈sizes.reverse,n≠0:=fun n hn e=>by
  subst e;rw [zeJ hn] at hj;omega
 have hl:(zaT sizes.reverse j).length=sizes.length:=by rw [zfH,Ki]
 refine⟨by rw [Ki,hl],fun i n d hn hd=>?_⟩;have hi:i<sizes.length:=(Jq.1 hn).1;have e1:=JK (l:=sizes.reverse) (i:=i) (by simpa using hi);rw [List.reverse_reverse,hn] at e1;have e2:=JK (l:=zaT sizes.reverse j) (i:=i) (by omega);rw [hd,hl] at e2;rw [Ki] at e1;exact znu _ _ h0 _ n d e1.symm e2.symm
theorem zkc:∀ (rs:List (Nat×List Nat)) (r:Nat) (s:List Nat) (ds:List Nat) (f:Nat->Nat),rfF (rs++[(r,s)]) ds f=upd (rfF rs ds f) (s.getD (ds.getD rs.length 0) 0) (rfF rs ds f (s.getD (ds.getD rs.length 0) 0)|||2^r)
 | [],r,s,ds,f=>by
  have:ds.getD 0 0=ds.headD 0:=by cases ds <;> rfl
  show upd f (s.getD (ds.headD 0) 0) _=_;rw [<- this];rfl
 | (r',s')::rs,r,s,ds,f=>by
  have e:ds.getD (rs.length+1) 0=ds.tail.getD rs.length 0:=by
   cases ds with
   | nil=>simp
   | cons a ds=>simp
  show rfF (rs++[(r,s)]) ds.tail _=_;rw [zkc rs r s ds.tail];show _=upd (rfF rs ds.tail _) (s.getD (ds.getD (rs.length+1) 0) 0) (rfF rs ds.tail _ (s.getD (ds.getD (rs.length+1) 0) 0)|||2^r);rw [e]
abbrev zhw (ev:List Ev) (rk:List Nat):UInt8:=(ev.getD (rk.getLastD 0) ev0).v
theorem zlc (ev:List Ev):∀ (Rs:List (List (List Nat))) (R:List (List Nat)) (l:Nat) (ds:List Nat) (p:RelD×(Nat->UInt8)),
  coG ev l (Rs++[R]) ds p=(zbw (R.getD (ds.getD Rs.length 0) []) (coG ev l Rs ds p).1,upd (coG ev l Rs ds p).2 (l+Rs.length) (zhw ev (R.getD (ds.getD Rs.length 0) [])))
 | [],R,l,ds,p=>by
  have:ds.getD 0 0=ds.headD 0:=by cases ds <;> rfl
  show (zbw (R.getD (ds.headD 0) []) p.1,upd p.2 l _)=_;rw [<- this];rfl
 | R'::Rs,R,l,ds,p=>by
  have e:ds.getD (Rs.length+1) 0=ds.tail.getD Rs.length 0:=by
   cases ds with
   | nil=>simp
   | cons a ds=>simp
  show coG ev (l+1) (Rs++[R]) ds.tail _=_;rw [zlc ev Rs R (l+1) ds.tail];show _=(zbw (R.getD (ds.getD (Rs.length+1) 0) []) _,upd _ (l+(Rs.length+1)) (zhw ev (R.getD (ds.getD (Rs.length+1) 0) [])));rw [e,show l+1+Rs.length=l+(Rs.length+1) by omega];rfl
def zgZ (r:RelD):Bool:=(List.range 48).all fun i=>decide (r.to i<2^64)
def zp4 (m:MixD):Bool :=
 decide (m.base.ev.length<=48)&&(decide (m.rs.length<=48)&&(decide (m.wr.length<=6)&&(zgZ m.base.rf&&(zgZ m.base.co &&
  ((m.rs.all fun r=>decide (r.1<48)&&(decide (r.2.length<=1000)&&r.2.all fun s=>decide (s<48))) &&
   (m.wr.all fun w=>decide (w.length<=48)&&(decide ((zaL w).length<=10000)&&(zaL w).all fun k=>decide (k≠[])&&(decide (k.length<=48)&&k.all fun a=>decide (a<m.base.ev.length)))))))))
structure MixB (m:MixD):Prop where
 ev:m.base.ev.length<=48
 rl:m.rs.length<=48
 wl:m.wr.length<=6
 rf:∀ i,i<48->m.base.rf.to i<2^64
 co:∀ i,i<48->m.base.co.to i<2^64
 rs:∀ r∈m.rs,r.1<48/\r.2.length<=1000/\∀ s∈r.2,s<48
 wr:∀ w∈m.wr,w.length<=48/\(zaL w).length<=10000/\∀ k∈zaL w,k≠[]/\k.length<=48/\∀ a∈k,a<m.base.ev.length
theorem zsc {m:MixD} (h:zp4 m=true):MixB m:=by
 unfold zp4 zgZ at h;simp only [bAT,dE,Qj,Ur] at h;obtain⟨h1,h2,h3,h4,h5,h6,h7⟩:=h;exact⟨h1,h2,h3,h4,h5,h6,h7⟩
def zb6 (a b : RelD) : Bool := decide (a.n = b.n) && (List.range 48).all fun i => decide (a.to i = b.to i)
def zaR (ev : List Ev) : Nat := (ev.takeWhile fun e => decide (e.th = -1)).length
def zk4 (locs : Nat) : Nat → List Ev → Int → Nat → Bool
  | _, [], _, _ => true
  | i, e :: es, t, n =>
    if i < locs then (if e = ⟨-1, 2, UInt8.ofNat i, e.v, 0, 0, 0⟩ then zk4 locs (i + 1) es t n else false)
    else if e.th < t ∨ 4 ≤ e.th then false
    else
      let t' := if t < e.th then e.th else t
      let n' := if t < e.th then 0 else n
      if e.p.toNat = n' then
        (if e.k = 1 ∨ e.k = 2 then (if e.l.toNat < locs then zk4 locs (i + 1) es t' (n' + 1) else false)
         else if e.k = 3 then (if e.l = 0 ∧ e.v = 0 then zk4 locs (i + 1) es t' (n' + 1) else false)
         else false)
      else false
def j8 (ev : List Ev) (locs : Nat) : Bool := zk4 locs 0 ev 0 0
def evA (x : ExD) (i : Nat) : Ev := x.ev.getD i ev0
def zdL (x : ExD) (s : Nat) (e : Ev) : Bool :=
  if e.k = 1 then (if s = 0 then false else
    (if s = 2 ^ ctz s then decide ((evA x (ctz s)).k = 2) && (decide ((evA x (ctz s)).l = e.l) && decide ((evA x (ctz s)).v = e.v)) else false))
  else decide (s = 0)
def zcr (x : ExD) : Bool := (List.range x.ev.length).all fun i => zdL x ((qE x.rf).to i) (evA x i)
def zap (key : Nat → Nat) : List Nat → Nat → List Nat
  | [], x => [x]
  | y :: r, x => if key y < key x then y :: zap key r x else x :: y :: r
def zev (key : Nat → Nat) (l : List Nat) : List Nat := (l.foldl (fun acc x => zap key acc x) []).reverse
def zcW (s : Nat) : Nat := (els s).length
def zdH (x : ExD) (l : Nat) : List Nat := (List.range x.ev.length).filter fun i => decide ((evA x i).k = 2) && decide ((evA x i).l.toNat = l)
def qy (x : ExD) (l : Nat) : List Nat := zev (fun i => zcW (x.co.to i)) (zdH x l)
def zlb (x : ExD) : Nat → Nat → RelD × (Nat → UInt8) → Option (RelD × (Nat → UInt8))
  | 0, _, p => some p
  | n + 1, l, p => if (qy x l).headD 48 = l then zlb x n (l + 1) (zbw (qy x l) p.1, upd p.2 l (zhw x.ev (qy x l))) else none
def zcC (x : ExD) (locs : Nat) : Bool := match zlb x locs 0 (⟨x.ev.length, fun _ => 0⟩, fun _ => 0) with
  | none => false
  | some p => zb6 p.1 x.co && (List.range 6).all fun l => decide (p.2 l = x.mem l)
def zfO (x : ExD) : Nat := (List.range x.ev.length).foldl (fun s i => if (evA x i).k = 2 then s ||| 2 ^ i else s) 0
def zdy (x : ExD) (W : Nat) : Nat → List Ev → Nat → Bool
  | _, [], _ => true
  | i, e :: es, h =>
    let d := x.dt.to i
    let c := x.ct.to i
    let r := x.rm.to i
    if d ||| c ||| r = 0 then zdy x W (i + 1) es h
    else if e.k = 1 ∧ zao (d ||| r) W = 0 ∧ zao (d ||| c ||| r) (x.po.to i) = 0 then
      (if r = 0 then zdy x W (i + 1) es h
       else if r = 2 ^ ctz r ∧ h.testBit (ctz r) = false ∧ (evA x (ctz r)).l = e.l then zdy x W (i + 1) es (h ||| r) else false)
    else false
def za9 (x : ExD) : Bool := zdy x (zfO x) 0 x.ev 0
def zbh (x : ExD) : Bool := [x.po, x.rf, x.co, x.dt, x.ct, x.rm].all fun r => decide (r.n = x.ev.length) && okR r
def zS (x : ExD) : Bool :=
  decide (x.ev.length ≤ 48) && (decide (1 ≤ zaR x.ev) && (decide (zaR x.ev ≤ 6) && (j8 x.ev (zaR x.ev) && (zbh x && (zb6 x.po (poR x.ev) && (zcr x && (zcC x (zaR x.ev) && za9 x)))))))
end Go.Sei
namespace Go.Vc
open Go.RowKit
inductive Mk where
 | p
 | s (a b:Mk)
 | c (a b:Mk)
 | d (a b:Mk)
 | b (a:Mk)
 | l (a:Mk)
def ztm (first:(Exit->Env->Wd->Prop)->Prop) (second:Env->Wd->(Exit->Env->Wd->Prop)->Prop) (Q:Exit->Env->Wd->Prop):Prop :=
 ∃ (σ:Type) (env:σ->Env) (inv:σ->Wd->Prop),(first fun ex E' w'=>match ex with
  | .normal=>∃ s,Cov E' (env s)/\inv s w'
  | ex=>Q ex E' w')/\∀ s w',inv s w'->second (env s) w' Q
noncomputable def wpM (S:Sig) (m:Mk):Code->Env->Wd->(Exit->Env->Wd->Prop)->Prop :=
 Mk.rec (motive:=fun _=>Code->Env->Wd->(Exit->Env->Wd->Prop)->Prop)
  (fun c E w Q=>wpE S c E w Q)
  (fun _ _ ia ib c E w Q=>match c with
   | .seq x y=>ia x E w fun ex E' w'=>match ex with
    | .normal=>ib y E' w' Q
    | ex=>Q ex E' w'
   | _=>False)
  (fun _ _ ia ib c E w Q=>match c with
   | .seq x y=>ztm (fun Q=>ia x E w Q) (fun E w Q=>ib y E w Q) Q
   | _=>False)
  (fun _ _ ia ib c E w Q=>match c with
   | .cond c x y=>(match opd E c with
    | some (.bool v)=>Br v (ia x E w Q) (ib y E w Q)
    | _=>False)
   | _=>False)
  (fun _ ia c E w Q=>match c with
   | .block id x=>ia x E w fun ex E' w'=>match ex with
    | .exit id'=>(match Nat.beq id' id with
     | true=>Q .normal E' w'
     | false=>Q (.exit id') E' w')
    | ex=>Q ex E' w'
   | _=>False)
  (fun _ ia c E w Q=>match c with
   | .loop x=>zrg (fun E w Q=>ia x E w Q) E w Q
   | _=>False)
  m
section
variable {S:Sig}
theorem j9 (hS:SigOk S):∀ (m:Mk) (c:Code) (E:Env) (a:Act) (w:Wd) (Q:Exit->Env->Wd->Prop),Agrees S a E->wpM S m c E w Q->c.wpIn (FR S.r) NN S.P (zfw S Q) a w
 | .p,c,E,a,w,Q,ha,h=>qS hS c E a w Q ha h
 | .s m k,.seq x y,E,a,w,Q,ha,h=>by
  replace h:(wpM S m x E w fun ex E' w'=>match ex with | .normal=>wpM S k y E' w' Q | ex=>Q ex E' w'):=h;refine wpIn_seq (Gq (j9 hS m x E a w _ ha h) ?_);rintro ex a' w' ⟨E',ha',hq⟩
  cases ex with
  | normal=>exact j9 hS k y E' a' w' Q ha' hq
  | _=>exact⟨E',ha',hq⟩
 | .c m k,.seq x y,E,a,w,Q,ha,h=>by
  replace h:ztm (fun Q=>wpM S m x E w Q) (fun E w Q=>wpM S k y E w Q) Q:=h;obtain⟨σ,env,inv,h1,h2⟩:=h;refine wpIn_seq (Gq (j9 hS m x E a w _ ha h1) ?_);rintro ex a' w' ⟨E',ha',hq⟩
  cases ex with
  | normal =>
   obtain⟨s,hc,hi⟩:=hq;exact j9 hS k y (env s) a' w' Q (ha'.cov hc) (h2 s w' hi)
  | _=>exact⟨E',ha',hq⟩
 | .d m k,.cond c x y,E,a,w,Q,ha,h=>by
  replace h:(match opd E c with | some (.bool v)=>Br v (wpM S m x E w Q) (wpM S k y E w Q) | _=>False):=h
  split at h
  ·rename_i b hb;refine wpIn_cond_split (ha.eval hb) (fun e=>j9 hS m x E a w Q ha (h.1 e)) (fun e=>j9 hS k y E a w Q ha (h.2 e))
  ·exact h.elim
 | .b m,.block id x,E,a,w,Q,ha,h=>by
  replace h:(wpM S m x E w fun ex E' w'=>match ex with | .exit id'=>(match Nat.beq id' id with | true=>Q .normal E' w' | false=>Q (.exit id') E' w') | ex=>Q ex E' w'):=h;refine wpIn_block (Gq (j9 hS m x E a w _ ha h) ?_);rintro ex a' w' ⟨E',ha',hq⟩
  cases ex with
  | exit id' =>
   simp only [Exit.inBlock];dsimp only at hq
   split at hq
   ·rename_i hb;rw [Gz (JR hb)];exact⟨E',ha',hq⟩
   ·rename_i hb;rw [Gy (Nat.ne_of_beq_eq_false hb)];exact⟨E',ha',hq⟩
  | _=>exact⟨E',ha',hq⟩
 | .l m,.loop x,E,a,w,Q,ha,h=>by
  replace h:zrg (fun E w Q=>wpM S m x E w Q) E w Q:=h;obtain⟨σ,env,inv,μ,s0,hc,hi,hb⟩:=h;have key:∀ m s a w,μ s=m->Agrees S a (env s)->inv s w->(Code.loop x).wpIn (FR S.r) NN S.P (zfw S Q) a w:=by
   intro m' s a w hm ha hi;refine wpIn_loop (fun a w=>∃ s,Agrees S a (env s)/\inv s w) (fun a w=>leastOf (fun k=>∃ s,Agrees S a (env s)/\inv s w/\μ s=k)) ⟨s,ha,hi⟩ ?_;intro a w ⟨s1,ha1,hi1⟩;obtain⟨⟨s2,ha2,hi2,hm2⟩,_⟩:=leastOf_spec (p:=fun k=>∃ s,Agrees S a (env s)/\inv s w/\μ s=k) ⟨_,s1,ha1,hi1,rfl⟩;refine Gq (j9 hS m x (env s2) a w _ ha2 (hb s2 w hi2)) ?_;rintro ex a' w' ⟨E',ha',hq⟩
   cases ex with
   | normal =>
    obtain⟨s',hc',hi',hlt⟩:=hq;refine⟨⟨s',ha'.cov hc',hi'⟩,?_⟩;have:=(leastOf_spec (p:=fun k=>∃ s,Agrees S a' (env s)/\inv s w'/\μ s=k) ⟨_,s',ha'.cov hc',hi',rfl⟩).2;rw [<- hm2];exact KE (this _ ⟨s',ha'.cov hc',hi',rfl⟩) hlt
   | _=>exact⟨E',ha',hq⟩
  exact key _ s0 a w rfl (ha.cov hc) hi
 | .s _ _,.skip,_,_,_,_,_,h=>h.elim
 | .s _ _,.region _ _ _,_,_,_,_,_,h=>h.elim
 | .s _ _,.cond _ _ _,_,_,_,_,_,h=>h.elim
 | .s _ _,.block _ _,_,_,_,_,_,h=>h.elim
 | .s _ _,.loop _,_,_,_,_,_,h=>h.elim
 | .s _ _,.rangeFunc _ _ _ _,_,_,_,_,_,h=>h.elim
 | .s _ _,.exit _,_,_,_,_,_,h=>h.elim
 | .s _ _,.scope _,_,_,_,_,_,h=>h.elim
 | .s _ _,.label _,_,_,_,_,_,h=>h.elim
 | .s _ _,.goto _,_,_,_,_,_,h=>h.elim
 | .s _ _,.ret,_,_,_,_,_,h=>h.elim
 | .s _ _,.refuse _,_,_,_,_,_,h=>h.elim
 | .c _ _,.skip,_,_,_,_,_,h=>h.elim
 | .c _ _,.region _ _ _,_,_,_,_,_,h=>h.elim
 | .c _ _,.cond _ _ _,_,_,_,_,_,h=>h.elim
 | .c _ _,.block _ _,_,_,_,_,_,h=>h.elim
 | .c _ _,.loop _,_,_,_,_,_,h=>h.elim
 | .c _ _,.rangeFunc _ _ _ _,_,_,_,_,_,h=>h.elim
 | .c _ _,.exit _,_,_,_,_,_,h=>h.elim
 | .c _ _,.scope _,_,_,_,_,_,h=>h.elim
 | .c _ _,.label _,_,_,_,_,_,h=>h.elim
 | .c _ _,.goto _,_,_,_,_,_,h=>h.elim
 | .c _ _,.ret,_,_,_,_,_,h=>h.elim
 | .c _ _,.refuse _,_,_,_,_,_,h=>h.elim
 | .d _ _,.skip,_,_,_,_,_,h=>h.elim
 | .d _ _,.region _ _ _,_,_,_,_,_,h=>h.elim
 | .d _ _,.seq _ _,_,_,_,_,_,h=>h.elim
 | .d _ _,.block _ _,_,_,_,_,_,h=>h.elim
 | .d _ _,.loop _,_,_,_,_,_,h=>h.elim
 | .d _ _,.rangeFunc _ _ _ _,_,_,_,_,_,h=>h.elim
 | .d _ _,.exit _,_,_,_,_,_,h=>h.elim
 | .d _ _,.scope _,_,_,_,_,_,h=>h.elim
 | .d _ _,.label _,_,_,_,_,_,h=>h.elim
 | .d _ _,.goto _,_,_,_,_,_,h=>h.elim
 | .d _ _,.ret,_,_,_,_,_,h=>h.elim
 | .d _ _,.refuse _,_,_,_,_,_,h=>h.elim
 | .b _,.skip,_,_,_,_,_,h=>h.elim
 | .b _,.region _ _ _,_,_,_,_,_,h=>h.elim
 | .b _,.seq _ _,_,_,_,_,_,h=>h.elim
 | .b _,.cond _ _ _,_,_,_,_,_,h=>h.elim
 | .b _,.loop _,_,_,_,_,_,h=>h.elim
 | .b _,.rangeFunc _ _ _ _,_,_,_,_,_,h=>h.elim
 | .b _,.exit _,_,_,_,_,_,h=>h.elim
 | .b _,.scope _,_,_,_,_,_,h=>h.elim
 | .b _,.label _,_,_,_,_,_,h=>h.elim
 | .b _,.goto _,_,_,_,_,_,h=>h.elim
 | .b _,.ret,_,_,_,_,_,h=>h.elim
 | .b _,.refuse _,_,_,_,_,_,h=>h.elim
 | .l _,.skip,_,_,_,_,_,h=>h.elim
 | .l _,.region _ _ _,_,_,_,_,_,h=>h.elim
 | .l _,.seq _ _,_,_,_,_,_,h=>h.elim
 | .l _,.cond _ _ _,_,_,_,_,_,h=>h.elim
 | .l _,.block _ _,_,_,_,_,_,h=>h.elim
 | .l _,.rangeFunc _ _ _ _,_,_,_,_,_,h=>h.elim
 | .l _,.exit _,_,_,_,_,_,h=>h.elim
 | .l _,.scope _,_,_,_,_,_,h=>h.elim
 | .l _,.label _,_,_,_,_,_,h=>h.elim
 | .l _,.goto _,_,_,_,_,_,h=>h.elim
 | .l _,.ret,_,_,_,_,_,h=>h.elim
 | .l _,.refuse _,_,_,_,_,_,h=>h.elim
theorem zhU (hS:SigOk S) {f:FuncId} {fn:Func} {c:Code} {args:List Value} {w:Wd} {R:Ending->Wd->Prop} (m:Mk)
  (hf:S.P.funcs[f]?=some fn) (hb:fn.body=some c) (hn:fn.ntmps=S.n) (hle:args.length<=S.n) (hr:S.r=none)
  (h:wpM S m c ⟨zdA 0 args,[]⟩ w (zko S fn R)):Calls S.P f args.toArray w R:=by
 rw [<- callsIn_wide (n:=NN)];have hF:FR none=Fence.wide:=rfl;rw [<- hF];refine Ko hf hb trivial ?_;have ha:Agrees S { tmps:=args.toArray++Array.replicate (fn.ntmps-args.toArray.size) undef,defers:=[] } ⟨zdA 0 args,[]⟩:=by
  refine⟨?_,rfl,fun t v hv=>?_⟩
  ·simp [hn];omega
  ·obtain⟨_,h2⟩:=zdq _ _ _ _ hv;simp only [UX] at h2;have hlt:t<args.length:=(Jq.1 h2).1;simp only [JH,KX,hlt,Gx];simpa using h2
 have h1:=j9 hS m c _ _ w _ ha h;rw [hr] at h1;refine Gq h1 ?_;rintro ex a' w' ⟨E',ha',hq⟩
 cases ex with
 | normal=>have:=j0 hS ha' _ _ hq;rw [<- ha'.defers] at this;exact this
 | ret=>have:=j0 hS ha' _ _ hq;rw [<- ha'.defers] at this;exact this
 | panic ch =>
  obtain⟨hd,hR⟩:=hq;show LeavesInM _ _ _ _ _ _ a'.defers _ _;rw [ha'.defers,hd];exact hR
 | exit _=>exact hq.elim
 | goto _=>exact hq.elim
 | outgrown=>exact hq.elim
end
end Go.Vc
namespace Go.Proofs.YtnadlhpkpnfmbaaGreatDoor
open Go.Vc Go.RowKit
abbrev zU6:Value := .int .u64 0
abbrev zU8:Value := .int .u8 0
abbrev zU3:Value := .int .u32 0
abbrev zI6:Value := .int .i64 0
def zrp:List Value:=[zI6,zU6,zU6,zU6,zU6,zU6,zU6,zU6,zU6,zU6,zU6,zU6,zU6,zU6,zU6,zU6,zU6,zU6,zU6,zU6,zU6,zU6,zU6,zU6,zU6,zU6,zU6,zU6,zU6,zU6,zU6,zU6,zU6,zU6,zU6,zU6,zU6,zU6,zU6,zU6,zU6,zU6,zU6,zU6,zU6,zU6,zU6,zU6,zU6]
def zjP:List Value:=[.slice none 0 0,zI6,zU6,zU6,zU6,zU6,zU6,zU6,zU6,zU6,zU6,zU6,zU6,zU6,zU6,zU6,zU6,zU6,zU6,zU6,zU6,zU6,zU6,zU6,zU6,zU6,zU6,zU6,zU6,zU6,zU6,zU6,zU6,zU6,zU6,zU6,zU6,zU6,zU6,zU6,zU6,zU6,zU6,zU6,zU6,zU6,zU6,zU6,zU6,zU6,zI6,zU6,zU6,zU6,zU6,zU6,zU6,zU6,zU6,zU6,zU6,zU6,zU6,zU6,zU6,zU6,zU6,zU6,zU6,zU6,zU6,zU6,zU6,zU6,zU6,zU6,zU6,zU6,zU6,zU6,zU6,zU6,zU6,zU6,zU6,zU6,zU6,zU6,zU6,zU6,zU6,zU6,zU6,zU6,zU6,zU6,zU6,zU6,zU6,zI6,zU6,zU6,zU6,zU6,zU6,zU6,zU6,zU6,zU6,zU6,zU6,zU6,zU6,zU6,zU6,zU6,zU6,zU6,zU6,zU6,zU6,zU6,zU6,zU6,zU6,zU6,zU6,zU6,zU6,zU6,zU6,zU6,zU6,zU6,zU6,zU6,zU6,zU6,zU6,zU6,zU6,zU6,zU6,zU6,zU6,zU6,zU6,zU6,zI6,zU6,zU6,zU6,zU6,zU6,zU6,zU6,zU6,zU6,zU6,zU6,zU6,zU6,zU6,zU6,zU6,zU6,zU6,zU6,zU6,zU6,zU6,zU6,zU6,zU6,zU6,zU6,zU6,zU6,zU6,zU6,zU6,zU6,zU6,zU6,zU6,zU6,zU6,zU6,zU6,zU6,zU6,zU6,zU6,zU6,zU6,zU6,zU6,zI6,zU6,zU6,zU6,zU6,zU6,zU6,zU6,zU6,zU6,zU6,zU6,zU6,zU6,zU6,zU6,zU6,zU6,zU6,zU6,zU6,zU6,zU6,zU6,zU6,zU6,zU6,zU6,zU6,zU6,zU6,zU6,zU6,zU6,zU6,zU6,zU6,zU6,zU6,zU6,zU6,zU6,zU6,zU6,zU6,zU6,zU6,zU6,zU6,zI6,zU6,zU6,zU6,zU6,zU6,zU6,zU6,zU6,zU6,zU6,zU6,zU6,zU6,zU6,zU6,zU6,zU6,zU6,zU6,zU6,zU6,zU6,zU6,zU6,zU6,zU6,zU6,zU6,zU6,zU6,zU6,zU6,zU6,zU6,zU6,zU6,zU6,zU6,zU6,zU6,zU6,zU6,zU6,zU6,zU6,zU6,zU6,zU6,zU8,zU8,zU8,zU8,zU8,zU8,zU8,zU8,zU8,zU8,zU8,zU8,zU8,zU8,zU8,zU8,zU8,zU8,zU8,zU8,zU8,zU8,zU8,zU8,zU8,zU8,zU8,zU8,zU8,zU8,zU8,zU8,zU8,zU8,zU8,zU8,zU8,zU8]
def ztp:List Value:=[.slice none 0 0,zI6,zU6,zU6,zU6,zU6,zU6,zU6,zU6,zU6,zU6,zU6,zU6,zU6,zU6,zU6,zU6,zU6,zU6,zU6,zU6,zU6,zU6,zU6,zU6,zU6,zU6,zU6,zU6,zU6,zU6,zU6,zU6,zU6,zU6,zU6,zU6,zU6,zU6,zU6,zU6,zU6,zU6,zU6,zU6,zU6,zU6,zU6,zU6,zU6,zI6,zU6,zU6,zU6,zU6,zU6,zU6,zU6,zU6,zU6,zU6,zU6,zU6,zU6,zU6,zU6,zU6,zU6,zU6,zU6,zU6,zU6,zU6,zU6,zU6,zU6,zU6,zU6,zU6,zU6,zU6,zU6,zU6,zU6,zU6,zU6,zU6,zU6,zU6,zU6,zU6,zU6,zU6,zU6,zU6,zU6,zU6,zU6,zU6,zI6,zU6,zU6,zU6,zU6,zU6,zU6,zU6,zU6,zU6,zU6,zU6,zU6,zU6,zU6,zU6,zU6,zU6,zU6,zU6,zU6,zU6,zU6,zU6,zU6,zU6,zU6,zU6,zU6,zU6,zU6,zU6,zU6,zU6,zU6,zU6,zU6,zU6,zU6,zU6,zU6,zU6,zU6,zU6,zU6,zU6,zU6,zU6,zU6,zI6,zU6,zU6,zU6,zU6,zU6,zU6,zU6,zU6,zU6,zU6,zU6,zU6,zU6,zU6,zU6,zU6,zU6,zU6,zU6,zU6,zU6,zU6,zU6,zU6,zU6,zU6,zU6,zU6,zU6,zU6,zU6,zU6,zU6,zU6,zU6,zU6,zU6,zU6,zU6,zU6,zU6,zU6,zU6,zU6,zU6,zU6,zU6,zU6,zI6,zU6,zU6,zU6,zU6,zU6,zU6,zU6,zU6,zU6,zU6,zU6,zU6,zU6,zU6,zU6,zU6,zU6,zU6,zU6,zU6,zU6,zU6,zU6,zU6,zU6,zU6,zU6,zU6,zU6,zU6,zU6,zU6,zU6,zU6,zU6,zU6,zU6,zU6,zU6,zU6,zU6,zU6,zU6,zU6,zU6,zU6,zU6,zU6,zI6,zU6,zU6,zU6,zU6,zU6,zU6,zU6,zU6,zU6,zU6,zU6,zU6,zU6,zU6,zU6,zU6,zU6,zU6,zU6,zU6,zU6,zU6,zU6,zU6,zU6,zU6,zU6,zU6,zU6,zU6,zU6,zU6,zU6,zU6,zU6,zU6,zU6,zU6,zU6,zU6,zU6,zU6,zU6,zU6,zU6,zU6,zU6,zU6,zU8,zU8,zU8,zU8,zU8,zU8,zU8,zU8,zU8,zU8,zU8,zU8,zU8,zU8,zU8,zU8,zU8,zU8,zU8,zU8,zU8,zU8,zU8,zU8,zU8,zU8,zU8,zU8,zU8,zU8,zU8,zU8,zU8,zU8,zU8,zU8,zU8,zU8,zI6,.map none]
def zbJ:List Value:=[.slice none 0 0,zI6,zU6,zU6,zU6,zU6,zU6,zU6,zU6,zU6,zU6,zU6,zU6,zU6,zU6,zU6,zU6,zU6,zU6,zU6,zU6,zU6,zU6,zU6,zU6,zU6,zU6,zU6,zU6,zU6,zU6,zU6,zU6,zU6,zU6,zU6,zU6,zU6,zU6,zU6,zU6,zU6,zU6,zU6,zU6,zU6,zU6,zU6,zU6,zU6,zI6,zU6,zU6,zU6,zU6,zU6,zU6,zU6,zU6,zU6,zU6,zU6,zU6,zU6,zU6,zU6,zU6,zU6,zU6,zU6,zU6,zU6,zU6,zU6,zU6,zU6,zU6,zU6,zU6,zU6,zU6,zU6,zU6,zU6,zU6,zU6,zU6,zU6,zU6,zU6,zU6,zU6,zU6,zU6,zU6,zU6,zU6,zU6,zU6,zI6,zU6,zU6,zU6,zU6,zU6,zU6,zU6,zU6,zU6,zU6,zU6,zU6,zU6,zU6,zU6,zU6,zU6,zU6,zU6,zU6,zU6,zU6,zU6,zU6,zU6,zU6,zU6,zU6,zU6,zU6,zU6,zU6,zU6,zU6,zU6,zU6,zU6,zU6,zU6,zU6,zU6,zU6,zU6,zU6,zU6,zU6,zU6,zU6,zI6,zU6,zU6,zU6,zU6,zU6,zU6,zU6,zU6,zU6,zU6,zU6,zU6,zU6,zU6,zU6,zU6,zU6,zU6,zU6,zU6,zU6,zU6,zU6,zU6,zU6,zU6,zU6,zU6,zU6,zU6,zU6,zU6,zU6,zU6,zU6,zU6,zU6,zU6,zU6,zU6,zU6,zU6,zU6,zU6,zU6,zU6,zU6,zU6,zI6,zU6,zU6,zU6,zU6,zU6,zU6,zU6,zU6,zU6,zU6,zU6,zU6,zU6,zU6,zU6,zU6,zU6,zU6,zU6,zU6,zU6,zU6,zU6,zU6,zU6,zU6,zU6,zU6,zU6,zU6,zU6,zU6,zU6,zU6,zU6,zU6,zU6,zU6,zU6,zU6,zU6,zU6,zU6,zU6,zU6,zU6,zU6,zU6,zI6,zU6,zU6,zU6,zU6,zU6,zU6,zU6,zU6,zU6,zU6,zU6,zU6,zU6,zU6,zU6,zU6,zU6,zU6,zU6,zU6,zU6,zU6,zU6,zU6,zU6,zU6,zU6,zU6,zU6,zU6,zU6,zU6,zU6,zU6,zU6,zU6,zU6,zU6,zU6,zU6,zU6,zU6,zU6,zU6,zU6,zU6,zU6,zU6,zU8,zU8,zU8,zU8,zU8,zU8,zU8,zU8,zU8,zU8,zU8,zU8,zU8,zU8,zU8,zU8,zU8,zU8,zU8,zU8,zU8,zU8,zU8,zU8,zU8,zU8,zU8,zU8,zU8,zU8,zU8,zU8,zU8,zU8,zU8,zU8,zU8,zU8,.slice none 0 0,.slice none 0 0,.slice none 0 0]
def zvz:List Value:=[zI6,zU8,zU8,zU8,zU8,zU8,zU8,zI6,zU8,zU8,zU8,zU8,zU8,zU8,zI6,zU8,zU8,zU8,zU8,zU8,zU8,zI6,zU8,zU8,zU8,zU8,zU8,zU8,zI6,zU8,zU8,zU8,zU8,zU8,zU8,zI6,zU8,zU8,zU8,zU8,zU8,zU8,zI6,zU8,zU8,zU8,zU8,zU8,zU8,zI6,zU8,zU8,zU8,zU8,zU8,zU8,zI6,zU8,zU8,zU8,zU8,zU8,zU8,zI6,zU8,zU8,zU8,zU8,zU8,zU8,zI6,zU8,zU8,zU8,zU8,zU8,zU8,zI6,zU8,zU8,zU8,zU8,zU8,zU8,zI6,zU8,zU8,zU8,zU8,zU8,zU8,zI6,zU8,zU8,zU8,zU8,zU8,zU8,zI6,zU8,zU8,zU8,zU8,zU8,zU8,zI6,zU8,zU8,zU8,zU8,zU8,zU8,zI6,zU8,zU8,zU8,zU8,zU8,zU8,zI6,zU8,zU8,zU8,zU8,zU8,zU8,zI6,zU8,zU8,zU8,zU8,zU8,zU8,zI6,zU8,zU8,zU8,zU8,zU8,zU8,zI6,zU8,zU8,zU8,zU8,zU8,zU8,zI6,zU8,zU8,zU8,zU8,zU8,zU8,zI6,zU8,zU8,zU8,zU8,zU8,zU8,zI6,zU8,zU8,zU8,zU8,zU8,zU8]
def zmK:List Value:=[zI6,zU8,zU8,zU8,zU8,zU8,zU8,zU8,zU8,zU3,zU3,zU3,zU3,zU3,zU3,zU3,zU3,zU3,zI6,zI6,zU8,zU8,zU8,zU8,zU8,zU8,zI6,zU8,zU8,zU8,zU8,zU8,zU8,zI6,zU8,zU8,zU8,zU8,zU8,zU8,zI6,zU8,zU8,zU8,zU8,zU8,zU8,zI6,zU8,zU8,zU8,zU8,zU8,zU8,zI6,zU8,zU8,zU8,zU8,zU8,zU8,zI6,zU8,zU8,zU8,zU8,zU8,zU8,zI6,zU8,zU8,zU8,zU8,zU8,zU8,zI6,zU8,zU8,zU8,zU8,zU8,zU8,zI6,zU8,zU8,zU8,zU8,zU8,zU8,zI6,zU8,zU8,zU8,zU8,zU8,zU8,zI6,zU8,zU8,zU8,zU8,zU8,zU8,zI6,zU8,zU8,zU8,zU8,zU8,zU8,zI6,zU8,zU8,zU8,zU8,zU8,zU8,zI6,zU8,zU8,zU8,zU8,zU8,zU8,zI6,zU8,zU8,zU8,zU8,zU8,zU8,zI6,zU8,zU8,zU8,zU8,zU8,zU8,zI6,zU8,zU8,zU8,zU8,zU8,zU8,zI6,zU8,zU8,zU8,zU8,zU8,zU8,zI6,zU8,zU8,zU8,zU8,zU8,zU8,zI6,zU8,zU8,zU8,zU8,zU8,zU8,zI6,zU8,zU8,zU8,zU8,zU8,zU8,zI6,zU8,zU8,zU8,zU8,zU8,zU8,zI6,zU8,zU8,zU8,zU8,zU8,zU8,zU3,zU3,zU3,zU3,zU3,zU3,zU3,zU3,zU3,zU3,zU3,zU3,zU3,zU3,zU3,zU3,zU3,zU3,zU3,zU3,zU3,zU3,zU3,zU3,zU3,zU3,zU3,zU3,zU3,zU3,zU3,zU3,zU3,zU3,zU3,zU3,zU3,zU3,zU3,zU3,zU3,zU3,zU3,zU3,zU3,zU3,zU3,zU3,zU3,zU3,zU3,zU3,zU3,zU3,zU3,zU3,zU3,zU3,zU3,zU3,zU3,zU3,zU3,zU3,zU3,zU3,zU3,zU3,zU3,zU3,zU3,zU3]
def zvA:List Value:=zjP++(zrp++(zrp++zrp))
def tt:TT:=[
 (0,⟨.other,1,false,0,none⟩),
 (3,⟨.int .i64,1,false,8,some [.int .i64 0]⟩),
 (4,⟨.bool,1,false,1,some [.bool false]⟩),
 (5,⟨.int .u8,1,false,1,some [.int .u8 0]⟩),
 (9,⟨.string,1,false,16,some [.string ByteArray.empty]⟩),
 (22,⟨.slice 24 3,1,false,24,some [.slice none 0 0]⟩),
 (24,⟨.struct [(0,1,false),(1,1,false),(2,1,false)],3,true,48,some [.int .u8 0,.string ByteArray.empty,.slice none 0 0]⟩),
 (25,⟨.slice 158 7,1,false,24,some [.slice none 0 0]⟩),
 (26,⟨.int .u64,1,false,8,some [.int .u64 0]⟩),
 (27,⟨.int .u64,1,false,8,some [.int .u64 0]⟩),
 (28,⟨.array 48 27 1 false,48,true,384,some (List.replicate 48 (.int .u64 0))⟩),
 (30,⟨.struct [(0,1,false),(1,48,true)],49,true,392,some zrp⟩),
 (31,⟨.array 8 5 1 false,8,true,8,some (List.replicate 8 (.int .u8 0))⟩),
 (32,⟨.array 4 31 8 true,32,true,32,some (List.replicate 32 (.int .u8 0))⟩),
 (33,⟨.array 6 5 1 false,6,true,6,some (List.replicate 6 (.int .u8 0))⟩),
 (35,⟨.struct [(0,32,true),(32,6,true)],38,true,38,some (List.replicate 38 (.int .u8 0))⟩),
 (37,⟨.struct [(0,1,false),(1,49,true),(50,49,true),(99,49,true),(148,49,true),(197,49,true),(246,49,true),(295,38,true)],333,true,2416,some zjP⟩),
 (40,⟨.other,1,false,8,some [.nilFunc]⟩),
 (41,⟨.other,1,false,8,some [.nilFunc]⟩),
 (42,⟨.int .i64,1,false,8,some [.int .i64 0]⟩),
 (43,⟨.other,1,false,0,none⟩),
 (45,⟨.slice 49 5,1,false,24,some [.slice none 0 0]⟩),
 (47,⟨.struct [(0,1,false)],1,true,24,some [.slice none 0 0]⟩),
 (49,⟨.struct [(0,1,false),(1,1,false),(2,3,true)],5,true,72,some [.int .u8 0,.string ByteArray.empty,.int .u8 0,.string ByteArray.empty,.slice none 0 0]⟩),
 (62,⟨.other,1,false,0,none⟩),
 (65,⟨.other,1,false,0,none⟩),
 (67,⟨.array 4 9 1 false,4,true,64,some [.string ByteArray.empty,.string ByteArray.empty,.string ByteArray.empty,.string ByteArray.empty]⟩),
 (72,⟨.slice 5 1,1,false,24,some [.slice none 0 0]⟩),
 (75,⟨.other,1,false,0,none⟩),
 (82,⟨.ptr 30,1,false,8,some [.pointer none]⟩),
 (83,⟨.slice 82 1,1,false,24,some [.slice none 0 0]⟩),
 (86,⟨.ptr 37,1,false,8,some [.pointer none]⟩),
 (89,⟨.slice 37 333,1,false,24,some [.slice none 0 0]⟩),
 (90,⟨.other,1,false,0,none⟩),
 (92,⟨.slice 9 1,1,false,24,some [.slice none 0 0]⟩),
 (94,⟨.struct [(0,1,false),(1,1,false)],2,true,2,some [.bool false,.int .u8 0]⟩),
 (96,⟨.struct [(0,1,false),(1,1,false),(2,1,false),(3,2,true),(5,2,true),(7,1,false),(8,1,false),(9,1,false)],10,true,10,some [.int .u8 0,.int .u8 0,.int .u8 0,.bool false,.int .u8 0,.bool false,.int .u8 0,.int .u8 0,.int .u8 0,.int .u8 0]⟩),
 (97,⟨.slice 96 10,1,false,24,some [.slice none 0 0]⟩),
 (98,⟨.slice 97 1,1,false,24,some [.slice none 0 0]⟩),
 (99,⟨.slice 101 5,1,false,24,some [.slice none 0 0]⟩),
 (101,⟨.struct [(0,1,false),(1,1,false),(2,1,false),(3,1,false),(4,1,false)],5,true,32,some [.int .u8 0,.int .u8 0,.int .u8 0,.int .u8 0,.slice none 0 0]⟩),
 (103,⟨.struct [(0,1,false),(1,1,false),(2,1,false),(3,1,false),(4,1,false),(5,5,true)],10,true,128,some [.string ByteArray.empty,.slice none 0 0,.slice none 0 0,.slice none 0 0,.int .u8 0,.int .u8 0,.int .u8 0,.int .u8 0,.int .u8 0,.slice none 0 0]⟩),
 (105,⟨.map 9 4,1,false,8,some [.map none]⟩),
 (106,⟨.other,1,false,0,none⟩),
 (108,⟨.ptr 110,1,false,8,some [.pointer none]⟩),
 (110,⟨.struct [(0,1,false),(1,1,false)],2,true,16,some [.map none,.int .i64 0]⟩),
 (113,⟨.struct [(0,1,false),(1,1,false),(2,1,false)],3,true,40,some [.slice none 0 0,.int .i64 0,.int .i64 0]⟩),
 (115,⟨.ptr 120,1,false,8,some [.pointer none]⟩),
 (118,⟨.map 9 30,1,false,8,some [.map none]⟩),
 (120,⟨.struct [(0,333,true),(333,1,false),(334,1,false)],335,true,2432,some ztp⟩),
 (122,⟨.other,1,false,8,some [.nilFunc]⟩),
 (124,⟨.other,1,false,0,none⟩),
 (128,⟨.slice 3 1,1,false,24,some [.slice none 0 0]⟩),
 (132,⟨.ptr 136,1,false,8,some [.pointer none]⟩),
 (134,⟨.struct [(0,1,false),(1,1,false),(2,1,false)],3,true,32,some [.int .u8 0,.string ByteArray.empty,.int .i64 0]⟩),
 (136,⟨.struct [(0,1,false),(1,3,true),(4,1,false),(5,1,false),(6,1,false),(7,1,false),(8,1,false)],9,true,88,some [.string ByteArray.empty,.int .u8 0,.string ByteArray.empty,.int .i64 0,.map none,.map none,.int .i64 0,.int .i64 0,.int .i64 0]⟩),
 (137,⟨.other,1,false,0,none⟩),
 (139,⟨.other,1,false,8,some [.nilFunc]⟩),
 (141,⟨.int .u64,1,false,8,some [.int .u64 0]⟩),
 (158,⟨.struct [(0,1,false),(1,1,false),(2,1,false),(3,1,false),(4,1,false),(5,1,false),(6,1,false)],7,true,16,some [.int .i64 0,.int .u8 0,.int .u8 0,.int .u8 0,.int .u8 0,.int .u8 0,.int .u8 0]⟩),
 (160,⟨.other,1,false,8,some [.nilFunc]⟩),
 (164,⟨.other,1,false,0,none⟩),
 (166,⟨.slice 172 336,1,false,24,some [.slice none 0 0]⟩),
 (167,⟨.other,1,false,0,none⟩),
 (169,⟨.ptr 103,1,false,8,some [.pointer none]⟩),
 (170,⟨.slice 128 1,1,false,24,some [.slice none 0 0]⟩),
 (172,⟨.struct [(0,333,true),(333,1,false),(334,1,false),(335,1,false)],336,true,2488,some zbJ⟩),
 (175,⟨.other,1,false,8,some [.nilFunc]⟩),
 (176,⟨.other,1,false,8,some [.nilFunc]⟩),
 (180,⟨.array 10 3 1 false,10,true,80,some (List.replicate 10 (.int .i64 0))⟩),
 (181,⟨.other,1,false,8,some [.nilFunc]⟩),
 (182,⟨.ptr 113,1,false,8,some [.pointer none]⟩),
 (185,⟨.array 10 9 1 false,10,true,160,some (List.replicate 10 (.string ByteArray.empty))⟩),
 (190,⟨.other,1,false,8,some [.nilFunc]⟩),
 (191,⟨.other,1,false,8,some [.nilFunc]⟩),
 (196,⟨.other,1,false,0,none⟩),
 (199,⟨.other,1,false,0,none⟩),
 (201,⟨.other,1,false,0,none⟩),
 (207,⟨.other,1,false,8,some [.nilFunc]⟩),
 (211,⟨.int .u32,1,false,4,some [.int .u32 0]⟩),
 (221,⟨.other,1,false,8,some [.nilFunc]⟩),
 (222,⟨.other,1,false,8,some [.nilFunc]⟩),
 (223,⟨.other,1,false,8,some [.nilFunc]⟩),
 (225,⟨.slice 228 2,1,false,24,some [.slice none 0 0]⟩),
 (228,⟨.struct [(0,1,false),(1,1,false)],2,true,16,some [.int .i64 0,.nilFunc]⟩),
 (230,⟨.other,1,false,0,none⟩),
 (232,⟨.slice 233 1,1,false,24,some [.slice none 0 0]⟩),
 (233,⟨.slice 241 12,1,false,24,some [.slice none 0 0]⟩),
 (234,⟨.other,1,false,0,none⟩),
 (236,⟨.other,1,false,8,some [.nilFunc]⟩),
 (237,⟨.other,1,false,8,some [.nilFunc]⟩),
 (239,⟨.slice 326 2,1,false,24,some [.slice none 0 0]⟩),
 (241,⟨.struct [(0,1,false),(1,1,false),(2,1,false),(3,1,false),(4,8,true)],12,true,104,some [.slice none 0 0,.slice none 0 0,.slice none 0 0,.slice none 0 0,.int .u8 0,.int .u8 0,.int .u8 0,.int .u8 0,.int .u8 0,.int .u8 0,.int .u8 0,.int .u8 0]⟩),
 (242,⟨.other,1,false,0,none⟩),
 (244,⟨.ptr 172,1,false,8,some [.pointer none]⟩),
 (245,⟨.slice 170 1,1,false,24,some [.slice none 0 0]⟩),
 (250,⟨.other,1,false,0,none⟩),
 (260,⟨.slice 30 49,1,false,24,some [.slice none 0 0]⟩),
 (261,⟨.ptr 263,1,false,8,some [.pointer none]⟩),
 (263,⟨.struct [(0,333,true),(333,49,true),(382,49,true),(431,49,true)],480,true,3592,some zvA⟩),
 (265,⟨.other,1,false,8,some [.nilFunc]⟩),
 (267,⟨.struct [(0,1,false)],1,true,8,some [.nilFunc]⟩),
 (268,⟨.array 7 267 1 true,7,true,56,some (List.replicate 7 (.nilFunc))⟩),
 (275,⟨.other,1,false,8,some [.nilFunc]⟩),
 (276,⟨.other,1,false,8,some [.nilFunc]⟩),
 (281,⟨.array 256 4 1 false,256,true,256,some (List.replicate 256 (.bool false))⟩),
 (282,⟨.other,1,false,8,some [.nilFunc]⟩),
 (283,⟨.other,1,false,8,some [.nilFunc]⟩),
 (285,⟨.ptr 291,1,false,8,some [.pointer none]⟩),
 (286,⟨.int .u32,1,false,4,some [.int .u32 0]⟩),
 (287,⟨.array 8 286 1 false,8,true,32,some (List.replicate 8 (.int .u32 0))⟩),
 (288,⟨.array 24 158 7 true,168,true,384,some zvz⟩),
 (289,⟨.array 24 286 1 false,24,true,96,some (List.replicate 24 (.int .u32 0))⟩),
 (291,⟨.struct [(0,1,false),(1,8,true),(9,8,true),(17,1,false),(18,1,false),(19,168,true),(187,24,true),(211,24,true),(235,24,true)],259,true,736,some zmK⟩),
 (293,⟨.other,1,false,8,some [.nilFunc]⟩),
 (297,⟨.other,1,false,0,none⟩),
 (299,⟨.array 64 5 1 false,64,true,64,some (List.replicate 64 (.int .u8 0))⟩),
 (300,⟨.array 3 5 1 false,3,true,3,some [.int .u8 0,.int .u8 0,.int .u8 0]⟩),
 (306,⟨.slice 311 3,1,false,24,some [.slice none 0 0]⟩),
 (307,⟨.other,1,false,0,none⟩),
 (309,⟨.int .u8,1,false,1,some [.int .u8 0]⟩),
 (311,⟨.struct [(0,1,false),(1,1,false),(2,1,false)],3,true,32,some [.int .u8 0,.string ByteArray.empty,.int .i64 0]⟩),
 (314,⟨.struct [(0,10,true),(10,1,false),(11,1,false)],12,true,32,some [.int .u8 0,.int .u8 0,.int .u8 0,.bool false,.int .u8 0,.bool false,.int .u8 0,.int .u8 0,.int .u8 0,.int .u8 0,.int .i64 0,.int .i64 0]⟩),
 (315,⟨.slice 41 1,1,false,24,some [.slice none 0 0]⟩),
 (318,⟨.ptr 101,1,false,8,some [.pointer none]⟩),
 (321,⟨.other,1,false,8,some [.nilFunc]⟩),
 (324,⟨.slice 286 1,1,false,24,some [.slice none 0 0]⟩),
 (326,⟨.array 2 5 1 false,2,true,2,some [.int .u8 0,.int .u8 0]⟩),
 (332,⟨.struct [(0,1,false),(1,1,false)],2,true,24,some [.string ByteArray.empty,.int .i64 0]⟩),
 (334,⟨.struct [(0,2,true),(2,1,false)],3,true,32,some [.string ByteArray.empty,.int .i64 0,.bool false]⟩),
 (335,⟨.other,1,false,8,some [.nilFunc]⟩),
 (336,⟨.other,1,false,8,some [.nilFunc]⟩),
 (340,⟨.ptr 314,1,false,8,some [.pointer none]⟩),
 (344,⟨.int .i64,1,false,8,some [.int .i64 0]⟩),
 (345,⟨.other,1,false,0,none⟩),
 (354,⟨.ptr 334,1,false,8,some [.pointer none]⟩),
 (355,⟨.other,1,false,8,some [.nilFunc]⟩),
 (356,⟨.other,1,false,0,none⟩),
 (359,⟨.array 9 5 1 false,9,true,9,some (List.replicate 9 (.int .u8 0))⟩),
 (366,⟨.other,1,false,8,some [.nilFunc]⟩),
 (367,⟨.array 9 366 1 false,9,true,72,some (List.replicate 9 (.nilFunc))⟩),
 (369,⟨.array 32 5 1 false,32,true,32,some (List.replicate 32 (.int .u8 0))⟩),
 (371,⟨.other,1,false,0,none⟩),
 (376,⟨.ptr 332,1,false,8,some [.pointer none]⟩),
 (377,⟨.other,1,false,8,some [.nilFunc]⟩),
 (380,⟨.other,1,false,0,none⟩)]
theorem tk {P:Program} {t:Nat} {i:TI} (h1:(P.info? t).map (fun x=>(x.size,x.bytes))=some (i.size,i.bytes):=by kernel_rfl)
  (h2:∀ z,i.zero=some z->((P.info? t).bind (fun x=>x.zero)).map (fun v=>v.cells.toList)=some z:=by intro z h;cases h;first | done | kernel_rfl) (h3:zqO P t i=true:=by kernel_rfl):TIok P t i:=zw3 h1 h2 h3
theorem js:TTok PG tt :=
 .cons tk (
 .cons tk (
 .cons tk (
 .cons tk (
 .cons tk (
 .cons tk (
 .cons tk (
 .cons tk (
 .cons tk (
 .cons tk (
 .cons tk (
 .cons tk (
 .cons tk (
 .cons tk (
 .cons tk (
 .cons tk (
 .cons tk (
 .cons tk (
 .cons tk (
 .cons tk (
 .cons tk (
 .cons tk (
 .cons tk (
 .cons tk (
 .cons tk (
 .cons tk (
 .cons tk (
 .cons tk (
 .cons tk (
 .cons tk (
 .cons tk (
 .cons tk (
 .cons tk (
 .cons tk (
 .cons tk (
 .cons tk (
 .cons tk (
 .cons tk (
 .cons tk (
 .cons tk (
 .cons tk (
 .cons tk (
 .cons tk (
 .cons tk (
 .cons tk (
 .cons tk (
 .cons tk (
 .cons tk (
 .cons tk (
 .cons tk (
 .cons tk (
 .cons tk (
 .cons tk (
 .cons tk (
 .cons tk (
 .cons tk (
 .cons tk (
 .cons tk (
 .cons tk (
 .cons tk (
 .cons tk (
 .cons tk (
 .cons tk (
 .cons tk (
 .cons tk (
 .cons tk (
 .cons tk (
 .cons tk (
 .cons tk (
 .cons tk (
 .cons tk (
 .cons tk (
 .cons tk (
 .cons tk (
 .cons tk (
 .cons tk (
 .cons tk (
 .cons tk (
 .cons tk (
 .cons tk (
 .cons tk (
 .cons tk (
 .cons tk (
 .cons tk (
 .cons tk (
 .cons tk (
 .cons tk (
 .cons tk (
 .cons tk (
 .cons tk (
 .cons tk (
 .cons tk (
 .cons tk (
 .cons tk (
 .cons tk (
 .cons tk (
 .cons tk (
 .cons tk (
 .cons tk (
 .cons tk (
 .cons tk (
 .cons tk (
 .cons tk (
 .cons tk (
 .cons tk (
 .cons tk (
 .cons tk (
 .cons tk (
 .cons tk (
 .cons tk (
 .cons tk (
 .cons tk (
 .cons tk (
 .cons tk (
 .cons tk (
 .cons tk (
 .cons tk (
 .cons tk (
 .cons tk (
 .cons tk (
 .cons tk (
 .cons tk (
 .cons tk (
 .cons tk (
 .cons tk (
 .cons tk (
 .cons tk (
 .cons tk (
 .cons tk (
 .cons tk (
 .cons tk (
 .cons tk (
 .cons tk (
 .cons tk (
 .cons tk (
 .cons tk (
 .cons tk (
 .cons tk (
 .cons tk (
 .cons tk (
 .cons tk (
 .cons tk (
 .cons tk (
 .cons tk (
 .cons tk (
 .cons tk (
 .nil))))))))))))))))))))))))))))))))))))))))))))))))))))))))))))))))))))))))))))))))))))))))))))))))))))))))))))))))))))))))))))))))))))))))))))))))))
theorem zu0:zqY PG 3 330 [171,172,174,217,235,301,302,303,304,305,306,307,308,309,310,311,312,313,314,315,316,317,318,319,320,321,322,323,324,325,326,327,328]=true:=by kernel_rfl
theorem mixed:Tryz.prog.follows .mixedOrders=true:=by kernel_rfl
@[reducible] noncomputable def sg (n:Nat):Sig:=⟨PG,tt,n,3,330,none,[171,172,174,217,235,301,302,303,304,305,306,307,308,309,310,311,312,313,314,315,316,317,318,319,320,321,322,323,324,325,326,327,328]⟩
theorem zbF (n:Nat):SigOk (sg n):=⟨fun t i h=>js.get t i h,zu1 zu0,mixed⟩
abbrev k0:=js.get 0 _ rfl
abbrev k3:=js.get 3 _ rfl
abbrev k4:=js.get 4 _ rfl
abbrev k5:=js.get 5 _ rfl
abbrev k9:=js.get 9 _ rfl
abbrev k22:=js.get 22 _ rfl
abbrev k24:=js.get 24 _ rfl
abbrev k25:=js.get 25 _ rfl
abbrev k27:=js.get 27 _ rfl
abbrev k30:=js.get 30 _ rfl
abbrev k31:=js.get 31 _ rfl
abbrev k37:=js.get 37 _ rfl
abbrev k42:=js.get 42 _ rfl
abbrev k45:=js.get 45 _ rfl
abbrev k47:=js.get 47 _ rfl
abbrev k49:=js.get 49 _ rfl
abbrev k72:=js.get 72 _ rfl
abbrev k89:=js.get 89 _ rfl
abbrev k94:=js.get 94 _ rfl
abbrev k96:=js.get 96 _ rfl
abbrev zqj:=js.get 128 _ rfl
abbrev zus:=js.get 134 _ rfl
abbrev zd3:=js.get 158 _ rfl
abbrev zwA:=js.get 166 _ rfl
abbrev zoC:=js.get 170 _ rfl
abbrev zqi:=js.get 172 _ rfl
abbrev zoB:=js.get 228 _ rfl
abbrev zxt:=js.get 232 _ rfl
abbrev zso:=js.get 233 _ rfl
abbrev zoA:=js.get 241 _ rfl
abbrev zxs:=js.get 245 _ rfl
abbrev zxr:=js.get 261 _ rfl
abbrev zwz:=js.get 268 _ rfl
abbrev zxq:=js.get 276 _ rfl
abbrev zur:=js.get 286 _ rfl
abbrev k291:=js.get 291 _ rfl
abbrev zsn:=js.get 306 _ rfl
abbrev zkN:=js.get 311 _ rfl
abbrev zxp:=js.get 314 _ rfl
abbrev zwx:=js.get 326 _ rfl
abbrev zxo:=js.get 334 _ rfl
abbrev zxn:=js.get 367 _ rfl
abbrev CB (f:FuncId) (args:Array Value) (w:Wd) (v:Value):Prop:=Calls PG f args w fun e w'=>e = .returned v/\Below w.heap.size w w'
theorem qa (n:Nat) (args:List Value) (m:Mk) {f:FuncId} {fn:Func} {c:Code} {w:Wd} {R:Ending->Wd->Prop} (hf:Tryz.prog.funcs[f]?=some fn) (h:wpM (sg n) m c ⟨zdA 0 args,[]⟩ w (zko (sg n) fn R)) (hb:fn.body=some c:=by rfl) (hn:fn.ntmps=n:=by rfl) (hle:args.length<=n:=by exact JS rfl):Calls PG f args.toArray w R:=zhU (S:=sg n) (zbF _) m hf hb hn hle rfl h
theorem zJ (n:Nat) (args:List Value) {f:FuncId} {fn:Func} {c:Code} {w:Wd} {R:Ending->Wd->Prop} (hf:Tryz.prog.funcs[f]?=some fn) (h:wpE (sg n) c ⟨zdA 0 args,[]⟩ w (zko (sg n) fn R)) (hb:fn.body=some c:=by rfl) (hn:fn.ntmps=n:=by rfl) (hle:args.length<=n:=by exact JS rfl):Calls PG f args.toArray w R:=q8 (S:=sg n) (zbF _) hf hb hn hle rfl h
end Go.Proofs.YtnadlhpkpnfmbaaGreatDoor
namespace Go.Sei
open Go.Vc
structure Msg where
 kind:UInt8
 from_:UInt8
 to:UInt8
 line:UInt8
 asker:UInt8
 acks:UInt8
 alone:Bool
 d0:UInt8
 d1:UInt8
 d2:UInt8
 d3:UInt8
 deriving DecidableEq
def Msg.enc (m:Msg):List Value:=[u8 m.kind,u8 m.from_,u8 m.to,u8 m.line,u8 m.asker,u8 m.acks,.bool m.alone,u8 m.d0,u8 m.d1,u8 m.d2,u8 m.d3]
def Msg.val (m:Msg):Value := .agg m.enc.toArray
def Msg.E:Enc Msg:=⟨Msg.enc,11,fun _=>rfl,by decide,fun a u hu=>by
 simp only [Msg.enc,UG,Qv,Gu] at hu;rcases hu with rfl | rfl | rfl | rfl | rfl | rfl | rfl | rfl | rfl | rfl | rfl <;> rfl⟩
def zsr:Enc Int:=⟨fun n=>[.int .i64 n],1,fun _=>rfl,by decide,fun a u hu=>by
 simp only [UG,Qv,Gu] at hu;subst hu;rfl⟩
end Go.Sei
namespace Go.Proofs.YtnadlhpkpnfmbaaGreatDoor
open Go.Vc Go.RowKit Go.Sei
def i64 (n:Int):Value := .int .i64 n
theorem zbv {off sz:Nat} {cs:List Value} {v:Value} {K:Value->Prop} (h:cs[off]?=some v) (k:K v):ziz off sz false cs K:=by
 unfold ziz;rw [h];exact k
end Go.Proofs.YtnadlhpkpnfmbaaGreatDoor
