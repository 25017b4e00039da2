/- Plain: the reference and the program agree on what is well-formed. Plain: the reference's models: the same relations, the same axioms. Plain: relations that grow pair by pair. Contracts: what the models ask of two events. Contracts: from-reads, what is fenced, what leads to another thread. Contracts: relations of one thread, of several; of one location; from-reads, as they are told. Contracts: what fences separate. Contracts: the rules of the models. (Printed by tools/gen_rules.py.). Contracts: the program order that a model preserves. Contracts: the axioms of the models. Contracts: what the models tell of an execution: Kept, Fr, Loc, Ext, Int, Fenced. Contracts: bits of sets and relations, by the references' way. Contracts: the references' relations: valid, a pair, transitive closure, acyclic. Contracts: the references' relations of an execution, pair by pair. Contracts: executions compared (Same, both). Plain: the choices of paths. Contracts: the candidates of a choice, gathered. Contracts: the choices of paths in memory. Contracts: the values that a thread writes. Contracts: is a condition right?. Contracts: a condition as a whole; the locations of a program. Contracts: what is demanded of a program. Contracts: is a program right?. Contracts: the values of a program (when every list met is sorted and small). Contracts: the values of a program. Contracts: the choices of paths. Contracts: the candidate executions of a program. Plain: what is asked of a program, as a check; the law's own programs. Plain: the law's own programs, evaluated. Plain: law 9's own programs, evaluated. Contracts: law 9's own programs are built. Contracts: more candidates than asked for. Contracts: law 10's own programs; the candidates that are looked for. Contracts: the candidates that law 10 looks for; what the models say of one. Contracts: what the models say of a candidate, asked one by one; the law's examples. Contracts: law 10's examples. (Printed by tools/gen_aw10.py.). Contracts: the reference's half and keeps. Contracts: the reference counts pairs; an event that writes. -/
import Derived.Test.YtmbghmhjjodgmaaGreatDoorT5
import Derived.Test.YtmbghmhjjodgmaaGreatDoorT1
import Derived.Test.YtmbghmhjjodgmaaGreatDoorT4
set_option linter.unusedSimpArgs false
set_option linter.unusedVariables false
namespace Go.Proofs.YtmbghmhjjodgmaaGreatDoor
open Go.Vc Go.RowKit Go.Sei
def zdC (n:Nat) (f:Nat→Nat→Bool):Bool:=(List.range n).all fun a=>(List.range n).all fun b=>f a b
def zc7 (x:ExD):Bool:=match zbm x.ev with
 | none=>false
 | some locs=>za3 x&&(zdC x.ev.length (zfb x)&&((List.range x.ev.length).all (zdT x)&&ze6 x locs))
theorem zl7 {n:Nat} {f:Nat→Nat→Bool}:zdC n f=true↔∀ a b,a<n→b<n→f a b=true:=by
 unfold zdC
 simp only [List.all_eq_true,List.mem_range]
 exact⟨fun h a b ha hb=>h a ha b hb,fun h a ha b hb=>h a b ha hb⟩
section
variable {x:ExD}
theorem zos:∀ (ev:List Ev) (locs i:Nat) (t:Int) (n:Nat),evGo locs i ev t n=true→0≤t→∀ j,j<ev.length→(i+j<locs→(ev.getD j ev0).th = -1)∧(locs≤i+j→0≤(ev.getD j ev0).th)∧((ev.getD j ev0).k=2→i+j<locs∧(ev.getD j ev0).l.toNat=(UInt8.ofNat (i+j)).toNat∨(ev.getD j ev0).l.toNat<locs)
 | [],_,_,_,_,_,_,j,hj=>by simp at hj
 | e::ev,locs,i,t,n,h,ht,j,hj=>by
  unfold evGo at h
  by_cases hi:i<locs
  ·rw [if_pos hi] at h
   by_cases he:e=⟨-1,2,UInt8.ofNat i,e.v,0,0,0⟩
   ·rw [if_pos he] at h
    cases j with
    | zero =>
     have e1:e.th = -1:=by rw [he]
     have e2:e.l=UInt8.ofNat i:=by rw [he]
     exact⟨fun _=>e1,fun h2=>by omega,fun _ => .inl ⟨hi,by show e.l.toNat=_;rw [e2];rfl⟩⟩
    | succ j =>
     have:=zos ev locs (i+1) t n h ht j (by simpa using hj)
     rw [show i+1+j=i+(j+1) by omega] at this
     exact this
   ·rw [if_neg he] at h;cases h
  ·rw [if_neg hi] at h
   by_cases hb:e.th<t∨4≤e.th
   ·rw [if_pos hb] at h;cases h
   ·rw [if_neg hb] at h
    dsimp only at h
    obtain⟨t',ht'⟩:∃ t',t'=if t<e.th then e.th else t:=⟨_,rfl⟩
    have h0:0≤t':=by rw [ht'];split <;> omega
    obtain⟨n',hn'⟩:∃ n',n'=if t<e.th then 0 else n:=⟨_,rfl⟩
    rw [← ht',← hn'] at h
    have go:∀ {m},evGo locs (i+1) ev t' m=true→(e.k=2→e.l.toNat<locs)→∀ j,j<(e::ev).length→(i+j<locs→((e::ev).getD j ev0).th = -1)∧(locs≤i+j→0≤((e::ev).getD j ev0).th)∧(((e::ev).getD j ev0).k=2→i+j<locs∧((e::ev).getD j ev0).l.toNat=(UInt8.ofNat (i+j)).toNat∨((e::ev).getD j ev0).l.toNat<locs):=fun {m} h2 hl j hj=>by
     cases j with
     | zero=>exact⟨fun h3=>by omega,fun _=>by show 0≤e.th;omega,fun h3 => .inr (hl h3)⟩
     | succ j =>
      have:=zos ev locs (i+1) t' m h2 h0 j (by simpa using hj)
      rw [show i+1+j=i+(j+1) by omega] at this
      exact this
    by_cases hp:e.p.toNat=n'
    ·rw [if_pos hp] at h
     by_cases k12:e.k=1∨e.k=2
     ·rw [if_pos k12] at h
      by_cases hl:e.l.toNat<locs
      ·rw [if_pos hl] at h
       exact go h (fun _=>hl) j hj
      ·rw [if_neg hl] at h;cases h
     ·rw [if_neg k12] at h
      by_cases k3:e.k=3
      ·rw [if_pos k3] at h
       by_cases hz:e.l=0∧e.v=0
       ·rw [if_pos hz] at h
        exact go h (fun h2=>(k12 (.inr h2)).elim) j hj
       ·rw [if_neg hz] at h;cases h
      ·rw [if_neg k3] at h;cases h
    ·rw [if_neg hp] at h;cases h
theorem zgP {a b:Bool}:(!a||b)=true↔(a=true→b=true):=by cases a <;> cases b <;> simp
theorem zkP (hw:WX x):zbH x=zc7 x:=by
 unfold zc7
 cases hh:zbm x.ev with
 | none =>
  dsimp only
  cases hr:zbH x with
  | false=>rfl
  | true =>
   unfold zbH at hr
   simp only [Bool.and_eq_true,decide_eq_true_eq] at hr
   obtain⟨h1,h2,h3,h4,_⟩:=hr
   rw [(zev x.ev (zaD x.ev)).2 ⟨rfl,h1,h2,h3,h4⟩] at hh
   cases hh
 | some locs =>
  dsimp only
  obtain⟨hl,h48,h1,h6,hev⟩:=(zev x.ev locs).1 hh
  have hX:zbH x=(za3 x&&(zbI x.po (poR x.ev)&&(zco x&&(zb7 x locs&&zb1 x)))):=by
   unfold zbH
   rw [← hl,decide_eq_true h48,decide_eq_true h1,decide_eq_true h6,hev];rfl
  rw [hX]
  cases hrels:za3 x with
  | false=>rfl
  | true =>
   rw [Bool.true_and,Bool.true_and]
   have hrel:=hrels
   unfold za3 at hrel
   simp only [List.all_cons,List.all_nil,Bool.and_true,Bool.and_eq_true,decide_eq_true_eq] at hrel
   obtain⟨a1,a2,a3,a4,a5,a6⟩:=hrel
   have rpo:RelOk x.ev.length x.po:=⟨a1.1,a1.2,hw.po⟩
   have rrf:RelOk x.ev.length x.rf:=⟨a2.1,a2.2,hw.rf⟩
   have rco:RelOk x.ev.length x.co:=⟨a3.1,a3.2,hw.co⟩
   have rdt:RelOk x.ev.length x.dt:=⟨a4.1,a4.2,hw.dt⟩
   have rct:RelOk x.ev.length x.ct:=⟨a5.1,a5.2,hw.ct⟩
   have rrm:RelOk x.ev.length x.rm:=⟨a6.1,a6.2,hw.rm⟩
   obtain⟨n,hn⟩:=nm (x.ev.length)
   have hq:∀ {r:RelD},RelOk x.ev.length r→∀ {a b},a<x.ev.length→hasQ r a b=hasM r a b:=fun {r} h {a b} ha=>zfr h (by omega)
   have hlen:locs≤x.ev.length:=by
    rw [hl]
    unfold zaD
    exact (List.takeWhile_sublist _).length_le
   have thv:=zos x.ev locs 0 0 0 hev (Int.le_refl _)
   have hth:∀ a,a<x.ev.length→((evA x a).th ≠ -1↔0≤(evA x a).th):=fun a ha=>by
    obtain⟨b1,b2,_⟩:=thv a ha
    unfold evA
    by_cases hc:a<locs
    ·have:=b1 (by omega);omega
    ·have:=b2 (by omega);omega
   have po_bit:∀ i j,i<x.ev.length→(hasM (poR x.ev) i j=true↔(evA x i).th ≠ -1∧i<j∧j<x.ev.length∧(evA x j).th=(evA x i).th):=fun i j hi=>by
    have hg:x.ev[i]?=some (evA x i):=by
     rw [List.getElem?_eq_getElem hi]
     unfold evA
     rw [List.getD_eq_getElem?_getD,List.getElem?_eq_getElem hi];rfl
    show (zdG x.ev i).testBit j=true↔_
    unfold zdG
    rw [hg]
    dsimp only
    by_cases ht:(evA x i).th = -1
    ·rw [if_pos ht]
     simp [ht]
    ·rw [if_neg ht,zma,Nat.zero_testBit]
     have hd:∀ m,(x.ev.drop (i+1)).getD m ev0=evA x (i+1+m):=fun m=>by
      unfold evA
      rw [List.getD_eq_getElem?_getD,List.getD_eq_getElem?_getD,List.getElem?_drop]
     constructor
     ·rintro (h | ⟨m,b1,b2,b3⟩)
      ·cases h
      ·rw [hd,← b2] at b3
       rw [List.length_drop] at b1
       exact⟨ht,by omega,by omega,b3⟩
     ·rintro⟨_,b1,b2,b3⟩
      refine .inr ⟨j-(i+1),by rw [List.length_drop];omega,by omega,?_⟩
      rw [hd,show i+1+(j-(i+1))=j by omega]
      exact b3
   have poE:zbI x.po (poR x.ev)=true↔∀ a b,a<x.ev.length→b<x.ev.length→hasQ x.po a b=poQ x a b:=by
    have e:∀ a b,a<x.ev.length→b<x.ev.length→(hasM (poR x.ev) a b=true↔poQ x a b=true):=fun a b ha hb=>by
     rw [po_bit a b ha]
     unfold poQ
     rw [Bool.and_eq_true,Bool.and_eq_true,decide_eq_true_eq,decide_eq_true_eq,decide_eq_true_eq,← hth a ha]
     exact⟨fun h=>⟨h.1,h.2.2.2.symm,h.2.1⟩,fun h=>⟨h.1,h.2.2,hb,h.2.1.symm⟩⟩
    constructor
    ·intro h a b ha hb
     rw [hq rpo ha,zhg h (by omega)]
     exact Bool.eq_iff_iff.2 (e a b ha hb)
    ·intro h
     unfold zbI
     rw [Bool.and_eq_true,decide_eq_true_eq,List.all_eq_true]
     refine⟨a1.1,fun i hi=>decide_eq_true (Nat.eq_of_testBit_eq fun j=>?_)⟩
     have hi:=List.mem_range.1 hi
     show hasM x.po i j=hasM (poR x.ev) i j
     by_cases hin:i<x.ev.length
     ·by_cases hjn:j<x.ev.length
      ·rw [← hq rpo hin,h i j hin hjn]
       exact (Bool.eq_iff_iff.2 (e i j hin hjn)).symm
      ·have c1:hasM x.po i j=false:=by
        cases hc:hasM x.po i j with
        | false=>rfl
        | true=>exact (hjn (rpo.bit hi hc).2).elim
       have c2:hasM (poR x.ev) i j=false:=by
        cases hc:hasM (poR x.ev) i j with
        | false=>rfl
        | true=>exact (hjn ((po_bit i j hin).1 hc).2.2.1).elim
       rw [c1,c2]
     ·have c1:hasM x.po i j=false:=by
       cases hc:hasM x.po i j with
       | false=>rfl
       | true=>exact (hin (rpo.bit hi hc).1).elim
      have c2:hasM (poR x.ev) i j=false:=by
       show (zdG x.ev i).testBit j=false
       unfold zdG
       rw [List.getElem?_eq_none (by omega)]
       exact Nat.zero_testBit _
      rw [c1,c2]
   have rfE:=zpg (x:=x) rrf
   have hwl:∀ i,i<x.ev.length→isW x i=true→(evA x i).l.toNat<locs:=fun i hi hW=>by
    rcases (thv i hi).2.2 (of_decide_eq_true hW) with ⟨b1,b2⟩ | b
    ·unfold evA
     rw [b2,Nat.zero_add,UInt8.toNat_ofNat',Nat.mod_eq_of_lt (by omega)]
     omega
    ·exact b
   have hin:∀ k,k<locs→k∈zaW x k:=fun k hk=>by
    obtain⟨v,hv⟩:=zgI x.ev 0 0 0 hev k (by omega) (by omega)
    have h2:evA x k=⟨-1,2,UInt8.ofNat (0+k),v,0,0,0⟩:=hv
    refine zbz.2 ⟨by omega,by unfold isW;rw [h2];rfl,?_⟩
    rw [h2]
    show (UInt8.ofNat (0+k)).toNat=k
    rw [Nat.zero_add,UInt8.toNat_ofNat']
    exact Nat.mod_eq_of_lt (by omega)
   have coE:=zkZ rco h6 hwl hin
   have depE:=zjj (x:=x) h48 rpo rdt rct rrm x.ev.length 0 0 (Nat.zero_add _)
   rw [List.drop_zero] at depE
   have depD:zb1 x=zeb x (zch x) 0 x.ev 0:=rfl
   have sl:∀ a b,(evA x a).l=(evA x b).l↔zdF x a b=true:=fun a b=>(decide_eq_true_iff).symm
   rw [Bool.eq_iff_iff]
   simp only [Bool.and_eq_true]
   rw [poE,rfE,coE,depD,depE,zl7,List.all_eq_true]
   constructor
   ·rintro⟨p1,⟨r1,r2⟩,⟨c1,c2⟩,d1,d2,d3⟩
    refine⟨fun a b ha hb=>?_,fun a ha=>?_,c2⟩
    ·have e1:poQ x a b=hasM x.po a b:=by rw [← p1 a b ha hb,hq rpo ha]
     unfold zfb
     simp only [Bool.and_eq_true,zgP,beq_iff_eq]
     rw [hq rrf ha,hq rco ha,hq rdt ha,hq rct ha,hq rrm ha,e1]
     have D:=d1 a (Nat.zero_le _) ha
     refine⟨by rw [hq rpo ha],fun h=>?_,fun h=>?_,fun h=>?_,fun h=>?_,fun h=>?_⟩
     ·obtain⟨b1,b2,b3,b4⟩:=r1 a b ha hb h
      exact⟨b1,b2,(sl a b).1 b3,decide_eq_true b4⟩
     ·obtain⟨b1,b2,b3⟩:=c1 a b ha hb h
      exact⟨b1,b2,(sl a b).1 b3⟩
     ·obtain⟨b1,b2⟩:=D.p b (.inl h)
      exact⟨b2,b1,D.w b (.inl h)⟩
     ·obtain⟨b1,b2⟩:=D.p b (.inr (.inl h))
      exact⟨b2,b1⟩
     ·obtain⟨b1,b2⟩:=D.p b (.inr (.inr h))
      exact⟨b2,b1,D.w b (.inr h),(sl a b).1 (D.l b h).symm⟩
    ·have ha:=List.mem_range.1 ha
     unfold zdT
     simp only [Bool.and_eq_true,zgP,decide_eq_true_eq]
     refine⟨fun h=>(zi8 rrf ha).2 (r2 a ha h),(zlp rrm ha).2 fun i j _ _ h1 h2=>(d1 a (Nat.zero_le _) ha).u i j h1 h2,(zlj rrm ha).2 fun i j hi hj h1 h2=>?_⟩
     rcases Nat.lt_trichotomy i j with h | h | h
     ·exact (d3 i j a (Nat.zero_le _) h hj h1 h2).elim
     ·exact h
     ·exact (d3 j i a (Nat.zero_le _) h hi h2 h1).elim
   ·rintro⟨p,cn,pl⟩
    have P:∀ a b,a<x.ev.length→b<x.ev.length→hasQ x.po a b=poQ x a b∧(hasM x.rf a b=true→isW x a=true∧isR x b=true∧zdF x a b=true∧(evA x a).v=(evA x b).v)∧(hasM x.co a b=true→isW x a=true∧isW x b=true∧zdF x a b=true) ∧
      (hasM x.dt a b=true→poQ x a b=true∧isR x a=true∧isW x b=true)∧(hasM x.ct a b=true→poQ x a b=true∧isR x a=true)∧(hasM x.rm a b=true→poQ x a b=true∧isR x a=true∧isW x b=true∧zdF x a b=true):=fun a b ha hb=>by
     have:=p a b ha hb
     unfold zfb at this
     simp only [Bool.and_eq_true,zgP,beq_iff_eq,decide_eq_true_eq] at this
     rw [hq rrf ha,hq rco ha,hq rdt ha,hq rct ha,hq rrm ha] at this
     exact this
    have C:∀ a,a<x.ev.length→(isR x a=true→zbA x.rf a=1)∧zbN x.rm a≤1∧zbA x.rm a≤1:=fun a ha=>by
     have:=cn a (List.mem_range.2 ha)
     unfold zdT at this
     simp only [Bool.and_eq_true,zgP,decide_eq_true_eq] at this
     exact this
    have pom:∀ a b,a<x.ev.length→b<x.ev.length→poQ x a b=true→hasM x.po a b=true:=fun a b ha hb h=>by rw [← hq rpo ha,(P a b ha hb).1];exact h
    have bb:∀ {r:RelD},RelOk x.ev.length r→∀ {a b},a<x.ev.length→hasM r a b=true→b<x.ev.length:=fun {r} h {a b} ha h2=>(h.bit (by omega) h2).2
    refine⟨fun a b ha hb=>(P a b ha hb).1,⟨fun a b ha hb h=>?_,fun b hb h=>(zi8 rrf hb).1 ((C b hb).1 h)⟩,⟨fun a b ha hb h=>?_,pl⟩,fun k _ hk=>?_,fun k j _ _ _=>Nat.zero_testBit _,fun k k' j _ h1 h2 h3 h4=>?_⟩
    ·obtain⟨b1,b2,b3,b4⟩:=(P a b ha hb).2.1 h
     exact⟨b1,b2,(sl a b).2 b3,b4⟩
    ·obtain⟨b1,b2,b3⟩:=(P a b ha hb).2.2.1 h
     exact⟨b1,b2,(sl a b).2 b3⟩
    ·refine⟨fun j h=>?_,fun j h=>?_,fun i j h1 h2=>(zlp rrm hk).1 (C k hk).2.1 i j (bb rrm hk h1) (bb rrm hk h2) h1 h2,fun j h=>((sl k j).2 ((P k j hk (bb rrm hk h)).2.2.2.2.2 h).2.2.2).symm⟩
     ·rcases h with h | h
      ·exact ((P k j hk (bb rdt hk h)).2.2.2.1 h).2.2
      ·exact ((P k j hk (bb rrm hk h)).2.2.2.2.2 h).2.2.1
     ·rcases h with h | h | h
      ·have:=(P k j hk (bb rdt hk h)).2.2.2.1 h
       exact⟨this.2.1,pom k j hk (bb rdt hk h) this.1⟩
      ·have:=(P k j hk (bb rct hk h)).2.2.2.2.1 h
       exact⟨this.2,pom k j hk (bb rct hk h) this.1⟩
      ·have:=(P k j hk (bb rrm hk h)).2.2.2.2.2 h
       exact⟨this.2.1,pom k j hk (bb rrm hk h) this.1⟩
    ·have hk':k<x.ev.length:=by omega
     have:=(zlj rrm (bb rrm hk' h3)).1 (C j (bb rrm hk' h3)).2.2 k k' hk' h2 h3 h4
     omega
end
section
variable {n:Nat} {a b:RelD} {x:ExD}
structure KOk (x:ExD):Prop extends XOk x where
 k:∀ i,i<x.ev.length→(evA x i).k=1∨(evA x i).k=2∨(evA x i).k=3
end
section
variable {w:World} {b c:Nat} {x:ExD} {q:Option Addr}
theorem zaT {X:World} (fx:zau X ⟨b,0,none⟩ (exC x q c)):X.cell? ⟨b,0+0,none⟩=some (.slice q x.ev.length c):=zac fx (i:=0) rfl
theorem zpN {X:World} (hv:SlR evE X q x.ev) {a:Nat} (ha:a<x.ev.length):∃ bq oq,q=some ⟨bq,oq,none⟩∧bq<X.heap.size∧zau X ⟨bq,oq+a*7,none⟩ (evE.enc (evA x a)):=zdK hv ha
end
structure ScnV (X:World) (b:Nat) (x:ExD) (q:Option Addr) (c:Nat) (f l s:RelD):Prop where
 h:X.heap[b]?=some (.cells (exC x q c++(relC f++(relC l++relC s))).toArray 142 (0,0))
 v:ExV X x q
 wf:WrdR f.to
 wl:WrdR l.to
 ws:WrdR s.to
section
variable {w:World} {b c:Nat} {x:ExD} {q:Option Addr} {f l s:RelD}
theorem ScnV.below {X Y:World} (h:ScnV X b x q c f l s) (hb:Below X.heap.size X Y):ScnV Y b x q c f l s:=⟨zab hb h.h,h.v.below hb,h.wf,h.wl,h.ws⟩
theorem ScnV.cells {X:World} (h:ScnV X b x q c f l s):zau X ⟨b,0,none⟩ (exC x q c):=by
 have:=zaw (n:=0) (m:=333) (zaa h.h)
 have e:((exC x q c++(relC f++(relC l++relC s))).toArray.toList.drop 0).take 333=exC x q c:=by
  show (exC x q c++_).take 333=_
  rw [List.take_append_of_le_length (by rw [zav];decide),List.take_of_length_le (by rw [zav];decide)]
 rw [e] at this
 exact this
theorem ScnV.at {X:World} {o:Nat} {r:RelD} (h:ScnV X b x q c f l s) (hr:∃ A T,A.length=o∧exC x q c++(relC f++(relC l++relC s))=A++(relC r++T)):∀ i,i<48→X.cell? ⟨b,o+1+i*1,none⟩=some (s64 (r.to i)):=by
 intro i hi
 obtain⟨A,T,hA,hE⟩:=hr
 have:(exC x q c++(relC f++(relC l++relC s)))[o+1+i*1]?=some (s64 (r.to i)):=by
  rw [hE,Nat.mul_one,Nat.add_assoc,zbe hA,List.getElem?_append_left (by rw [zaf];omega),zgk r hi]
 have h2:=zac (zaa h.h) this
 rw [Nat.zero_add] at h2
 exact h2
end
section
variable {b c:Nat} {x:ExD} {q:Option Addr} {w:World}
theorem zaV {X:World} (fx:ExH X b x q c) {i:Nat} (hi:i<6) {o:Nat} (ho:o=1+49*i):zau X ⟨b,0+o,none⟩ (relC ((zcp x).getD i x.po)):=by
 rw [ho]
 exact ze1 fx hi
end
section
variable {b c:Nat} {x:ExD} {q:Option Addr} {w:World}
theorem notB {p:Bool} (h:(!p)=true):p=false:=by simpa using h
theorem notF {p:Bool} (h:(!p)=false):p=true:=by simpa using h
end
theorem zoQ {s b:Nat}:decide (((s/2^b%2:Nat):Int)=1)=s.testBit b:=by
 rw [Nat.testBit_eq_decide_div_mod_eq]
 exact decide_eq_decide.2 (by omega)
theorem znC {a:Nat}:Int.tmod ((a:Nat):Int) 2=((a%2:Nat):Int):=rfl
def putR (r:RelD) (a b:Nat):RelD:=⟨r.n,upd r.to a (r.to a|||2^b)⟩
section
variable {w:World}
theorem znR {X:World} {L:Nat} {r:RelD} (h:RelH X L r):RelAt X L 0 27 [] [] r:=⟨rfl,by simpa using h⟩
theorem ziQ {X:World} {L:Nat} {r:RelD} (h:RelH X L r) {i:Nat} (hi:i<48):X.cell? ⟨L,0+1+i*1,none⟩=some (s64 (r.to i)):=(znR h).cell hi
theorem ziR {X:World} {L:Nat} {r:RelD} (h:RelH X L r):X.cell? ⟨L,0+0,none⟩=some (i64 r.n):=zac (zaa h) (i:=0) rfl
theorem zmd {s b:Nat} (hb:b<64):Calls Tryz.prog 70 #[s64 s,i64 (b:Nat)] w fun e w'=>e = .returned (.bool (s.testBit b))∧w=w':=by
 refine zae (S:=sg 19) (sgOk _) (args:=[s64 s,i64 (b:Nat)]) Tryz.func70 rfl rfl (Nat.le_of_ble_eq_true rfl) rfl ?_
 refine brE (decide_eq_true (by omega)) ?_
 refine brE (decide_eq_true (by omega)) ?_
 refine⟨(b:Int),zdU ⟨by omega,by omega⟩,?_⟩
 refine⟨by omega,_,zge (a:=s) (k:=b) (by omega),?_⟩
 refine⟨by decide,_,znC,?_⟩
 exact⟨rb zoQ,rfl⟩
end
section
variable {w:World}
theorem zhN {r:RelD} (hr:WrdR r.to):Calls Tryz.prog 24 #[.agg (relC r).toArray] w fun e w'=>e = .returned (.bool (okR r))∧Below w.heap.size w w':=by
 refine zal (S:=sg 39) (sgOk _) (args:=[.agg (relC r).toArray]) (.c .p .p) Tryz.func24 rfl rfl (Nat.le_of_ble_eq_true rfl) rfl ?_
 obtain⟨L,hL⟩:=nm (w.heap.size)
 refine⟨Unit,fun _=>⟨[(1,At0 L)],[]⟩,fun _ X=>RelH X L r∧Below w.heap.size w X,⟨(),⟨.cons (by rw [hL];rfl) .nil,rfl⟩,by rw [hL];exact hnew w _,(Below.refl _ w).alloc (Nat.le_refl _) _⟩,?_⟩
 rintro _ X ⟨f,hbX⟩
 have hn:=ziR f
 refine⟨i64 r.n,hn,?_⟩
 refine biE (fun h=>?_) fun h=>?_
 ·have h:r.n<0:=of_decide_eq_true h
  refine brT ?_
  exact⟨rb (by unfold okR;rw [decide_eq_false (by omega)];rfl),hbX⟩
 have h:¬ r.n<0:=of_decide_eq_false h
 refine⟨i64 r.n,hn,?_⟩
 refine biE (fun h2=>?_) fun h2=>?_
 ·have h2:(48:Int)<r.n:=of_decide_eq_true h2
  exact⟨rb (by unfold okR;rw [decide_eq_false (show ¬ r.n≤48 by omega),Bool.false_and,Bool.and_false]),hbX⟩
 have h2:¬ (48:Int)<r.n:=of_decide_eq_false h2
 refine⟨Nat,fun a=>⟨[(1,At0 L),(3,i64 (a:Nat))],[]⟩,fun a Y=>X=Y∧a≤48∧∀ i j,i<a→j<64→hasM r i j=true→(i:Int)<r.n∧(j:Int)<r.n,fun a=>48-a,0,(cvE rfl rfl),⟨rfl,Nat.zero_le _,fun i j hi=>by omega⟩,?_⟩
 rintro a _ ⟨rfl,ha,hall⟩
 dsimp only
 refine biE (fun hc=>?_) fun hc=>?_
 ·have hc:(a:Int)<48:=of_decide_eq_true hc
  have ha48:a<48:=by omega
  refine⟨Nat,fun d=>⟨[(1,At0 L),(3,i64 (a:Nat)),(4,i64 (d:Nat))],[]⟩,fun d Y=>X=Y∧d≤64∧∀ j,j<d→hasM r a j=true→(a:Int)<r.n∧(j:Int)<r.n,fun d=>64-d,0,(cvE rfl rfl),⟨rfl,Nat.zero_le _,fun j hj=>by omega⟩,?_⟩
  rintro d _ ⟨rfl,hd,halld⟩
  dsimp only
  refine biE (fun hc=>?_) fun hc=>?_
  ·have hc:(d:Int)<64:=of_decide_eq_true hc
   have hd64:d<64:=by omega
   have next:(hasM r a d=true→(a:Int)<r.n∧(d:Int)<r.n)→∀ j,j<d+1→hasM r a j=true→(a:Int)<r.n∧(j:Int)<r.n:=fun h j hj hb=>by
    by_cases e:j=d
    ·subst e;exact h hb
    ·exact halld j (by omega) hb
   have bad:hasM r a d=true→¬ ((a:Int)<r.n∧(d:Int)<r.n)→okR r=false:=fun h1 h2=>by
    cases ho:okR r with
    | false=>rfl
    | true=>exact absurd (by have:=zgn ho hr ha48 h1;omega) h2
   refine⟨a,rfl,ha48,?_⟩
   refine⟨s64 (r.to a),ziQ f ha48,?_⟩
   refine Calls.mono (zmd (s:=r.to a) hd64) ?_
   rintro e _ ⟨rfl,rfl⟩
   refine biE (fun h3=>?_) fun h3=>?_
   ·have h3:hasM r a d=true:=h3
    refine⟨i64 r.n,hn,?_⟩
    refine biE (fun h4=>?_) fun h4=>?_
    ·have h4:r.n≤(a:Int):=of_decide_eq_true h4
     refine brT ?_
     exact⟨rb (bad h3 (by omega)).symm,hbX⟩
    ·have h4:¬ r.n≤(a:Int):=of_decide_eq_false h4
     refine⟨i64 r.n,hn,?_⟩
     refine biE (fun h5=>?_) fun h5=>?_
     ·have h5:r.n≤(d:Int):=of_decide_eq_true h5
      exact⟨rb (bad h3 (by omega)).symm,hbX⟩
     ·have h5:¬ r.n≤(d:Int):=of_decide_eq_false h5
      refine⟨((d+1:Nat):Int),(zad (by omega)).trans (by omega),?_⟩
      exact⟨d+1,(cvE rfl rfl),⟨rfl,by omega,next fun _=>by omega⟩,by show 64-(d+1)<64-d;omega⟩
   ·have h3:hasM r a d=false:=h3
    refine brF ?_
    refine⟨((d+1:Nat):Int),(zad (by omega)).trans (by omega),?_⟩
    exact⟨d+1,(cvE rfl rfl),⟨rfl,by omega,next fun h=>by rw [h3] at h;cases h⟩,by show 64-(d+1)<64-d;omega⟩
  ·have hc:¬ (d:Int)<64:=of_decide_eq_false hc
   obtain rfl:d=64:=by omega
   refine⟨((a+1:Nat):Int),(zad (by omega)).trans (by omega),?_⟩
   exact⟨a+1,(cvE rfl rfl),⟨rfl,by omega,fun i j hi hj hb=>by
    by_cases e:i=a
    ·subst e;exact halld j hj hb
    ·exact hall i j (by omega) hj hb⟩,by show 48-(a+1)<48-a;omega⟩
 ·have hc:¬ (a:Int)<48:=of_decide_eq_false hc
  obtain rfl:a=48:=by omega
  refine⟨rb ?_,hbX⟩
  symm
  refine zni (n:=r.n.toNat) (by omega) (by omega) fun i j hi hb=>?_
  have hj:j<64:=Nat.lt_of_not_le fun hge=>by
   have:(r.to i).testBit j=false:=Nat.testBit_lt_two_pow (Nat.lt_of_lt_of_le (hr i hi) (Nat.pow_le_pow_right (by decide) hge))
   rw [show hasM r i j=(r.to i).testBit j from rfl,this] at hb
   cases hb
  have:=hall i j hi hj hb
  omega
theorem zbj {r:RelD} {a d:Nat} (hr:WrdR r.to) (ha:a<48) (hd:d<64):Calls Tryz.prog 46 #[.agg (relC r).toArray,i64 (a:Nat),i64 (d:Nat)] w fun e w'=>e = .returned (.bool (hasQ r a d))∧Below w.heap.size w w':=by
 refine zal (S:=sg 37) (sgOk _) (args:=[.agg (relC r).toArray,i64 (a:Nat),i64 (d:Nat)]) (.c .p .p) Tryz.func46 rfl rfl (Nat.le_of_ble_eq_true rfl) rfl ?_
 obtain⟨L,hL⟩:=nm (w.heap.size)
 refine⟨Unit,fun _=>⟨[(1,i64 (a:Nat)),(2,i64 (d:Nat)),(3,At0 L)],[]⟩,fun _ X=>RelH X L r∧Below w.heap.size w X,⟨(),⟨.cons rfl (.cons rfl (.cons (by rw [hL];rfl) .nil)),rfl⟩,by rw [hL];exact hnew w _,(Below.refl _ w).alloc (Nat.le_refl _) _⟩,?_⟩
 rintro _ X ⟨f,hbX⟩
 refine⟨relC r,zaf _,zaa f,hlt f,?_⟩
 refine Calls.mono (zhN hr) ?_
 rintro e Y ⟨rfl,hbY⟩
 have f:=zab hbY f
 have bY:=hbX.trans (hbY.mono hbX.size)
 have hn:=ziR f
 refine biE (fun h1=>?_) fun h1=>?_
 ·have h1:okR r=true:=h1
  refine brE (decide_eq_true (by omega)) ?_
  refine⟨i64 r.n,hn,?_⟩
  refine biE (fun h2=>?_) fun h2=>?_
  ·have h2:(a:Int)<r.n:=of_decide_eq_true h2
   refine brE (decide_eq_true (by omega)) ?_
   refine⟨i64 r.n,hn,?_⟩
   refine biE (fun h3=>?_) fun h3=>?_
   ·have h3:(d:Int)<r.n:=of_decide_eq_true h3
    refine⟨a,rfl,ha,?_⟩
    refine⟨s64 (r.to a),ziQ f ha,?_⟩
    refine Calls.mono (zmd (s:=r.to a) hd) ?_
    rintro e _ ⟨rfl,rfl⟩
    exact⟨rb (by unfold hasQ;rw [h1,decide_eq_true h2,decide_eq_true h3];rfl),bY⟩
   ·have h3:¬ (d:Int)<r.n:=of_decide_eq_false h3
    exact⟨rb (by unfold hasQ;rw [h1,decide_eq_true h2,decide_eq_false h3];rfl),bY⟩
  ·have h2:¬ (a:Int)<r.n:=of_decide_eq_false h2
   refine brF ?_
   refine brF ?_
   exact⟨rb (by unfold hasQ;rw [h1,decide_eq_false h2];rfl),bY⟩
 ·have h1:okR r=false:=h1
  refine brF ?_
  refine brF ?_
  refine brF ?_
  refine brF ?_
  exact⟨rb (by unfold hasQ;rw [h1];rfl),bY⟩
end
theorem zc5 {x y:UInt8}:decide (((x.toNat:Nat):Int)=((y.toNat:Nat):Int))=decide (x=y):=decide_eq_decide.2 zbw
theorem zo5 {x:UInt8}:decide (((x.toNat:Nat):Int)=0)=decide (x=0):=zc5 (y:=0)
theorem zc9 {x:UInt8}:decide (((x.toNat:Nat):Int)=1)=decide (x=1):=zc5 (y:=1)
theorem zdE {x:UInt8}:decide (((x.toNat:Nat):Int)=2)=decide (x=2):=zc5 (y:=2)
theorem zji (d:Nat) (a b:Bool) (w:World):(Op.equalIn (d+1) 4 (.bool a) (.bool b)).run Tryz.prog w = .ok (decide (a=b)) w:=by
 simp only [Op.equalIn,Sem.run_bind,run_underlying Tryz.underlying4,Result.andThen_ok,Sem.run_pure]
 cases a <;> cases b <;> rfl
theorem zfw (x y:Operand) (a b:Bool) (w:World):(do eqGuard .eql 4 x y (.bool a) (.bool b);binOp .eql 4 (.bool a) (.bool b)).run Tryz.prog w = .ok (.bool (decide (a=b))) w:=by
 have h:(Op.equal 4 (.bool a) (.bool b)).run Tryz.prog w = .ok (decide (a=b)) w:=zji 9999 a b w
 have h1:(eqGuard .eql 4 x y (.bool a) (.bool b)).run Tryz.prog w = .ok () w:=rfl
 rw [Sem.run_bind,h1]
 simp only [Result.andThen_ok,binOp,Sem.run_bind,h,Sem.run_pure]
theorem zdk {x:ExD} {q:Option Addr} {X:World} (hv:SlR evE X q x.ev) (h:0<x.ev.length):∃ bq oq,q=some ⟨bq,oq,none⟩∧bq<X.heap.size∧∀ i,i<x.ev.length→zau X ⟨bq,oq+i*7,none⟩ (evE.enc (evA x i)):=by
 obtain⟨b,o,hq,hb,hat⟩:=hv.at h
 refine⟨b,o,hq,hb,fun i hi=>?_⟩
 have:=hat i hi
 unfold evA
 rw [List.getD_eq_getElem?_getD,List.getElem?_eq_getElem hi]
 exact this
theorem zly {X:World} {b o i:Nat} {e:Ev} (h:zau X ⟨b,o+i*7,none⟩ (evE.enc e)):X.cell? ⟨b,o+i*7+0,none⟩=some (i64 e.th):=zac h (i:=0) rfl
theorem znt {X:World} {b:Nat} {e:Ev} (h:X.heap[b]?=some (.cells (evE.enc e).toArray 54 (0,0))):X.cell? ⟨b,0+0,none⟩=some (i64 e.th):=zac (zaa h) (i:=0) rfl
theorem zdl {X:World} {b o i:Nat} {e:Ev} (h:zau X ⟨b,o+i*7,none⟩ (evE.enc e)):X.cell? ⟨b,o+i*7+1,none⟩=some (u8 e.k):=zac h (i:=1) rfl
theorem zlG {X:World} {b:Nat} {e:Ev} (h:X.heap[b]?=some (.cells (evE.enc e).toArray 54 (0,0))):X.cell? ⟨b,0+1,none⟩=some (u8 e.k):=zac (zaa h) (i:=1) rfl
theorem zpM {X:World} {b o i:Nat} {e:Ev} (h:zau X ⟨b,o+i*7,none⟩ (evE.enc e)):X.cell? ⟨b,o+i*7+2,none⟩=some (u8 e.l):=zac h (i:=2) rfl
theorem zox {X:World} {b:Nat} {e:Ev} (h:X.heap[b]?=some (.cells (evE.enc e).toArray 54 (0,0))):X.cell? ⟨b,0+2,none⟩=some (u8 e.l):=zac (zaa h) (i:=2) rfl
theorem zmX {X:World} {b o i:Nat} {e:Ev} (h:zau X ⟨b,o+i*7,none⟩ (evE.enc e)):X.cell? ⟨b,o+i*7+3,none⟩=some (u8 e.v):=zac h (i:=3) rfl
theorem zqz {X:World} {b:Nat} {e:Ev} (h:X.heap[b]?=some (.cells (evE.enc e).toArray 54 (0,0))):X.cell? ⟨b,0+3,none⟩=some (u8 e.v):=zac (zaa h) (i:=3) rfl
theorem zqA {X:World} {b:Nat} {e:Ev} (h:X.heap[b]?=some (.cells (evE.enc e).toArray 54 (0,0))):X.cell? ⟨b,0+6,none⟩=some (u8 e.p):=zac (zaa h) (i:=6) rfl
theorem r_po {X:World} {b:Nat} {x:ExD} {q:Option Addr} {c:Nat} (fx:ExH X b x q c):zau X ⟨b,0+1,none⟩ (relC x.po):=zaV fx (i:=0) (by decide) rfl
theorem r_rf {X:World} {b:Nat} {x:ExD} {q:Option Addr} {c:Nat} (fx:ExH X b x q c):zau X ⟨b,0+50,none⟩ (relC x.rf):=zaV fx (i:=1) (by decide) rfl
theorem r_co {X:World} {b:Nat} {x:ExD} {q:Option Addr} {c:Nat} (fx:ExH X b x q c):zau X ⟨b,0+99,none⟩ (relC x.co):=zaV fx (i:=2) (by decide) rfl
theorem r_dt {X:World} {b:Nat} {x:ExD} {q:Option Addr} {c:Nat} (fx:ExH X b x q c):zau X ⟨b,0+148,none⟩ (relC x.dt):=zaV fx (i:=3) (by decide) rfl
theorem r_ct {X:World} {b:Nat} {x:ExD} {q:Option Addr} {c:Nat} (fx:ExH X b x q c):zau X ⟨b,0+197,none⟩ (relC x.ct):=zaV fx (i:=4) (by decide) rfl
theorem r_rm {X:World} {b:Nat} {x:ExD} {q:Option Addr} {c:Nat} (fx:ExH X b x q c):zau X ⟨b,0+246,none⟩ (relC x.rm):=zaV fx (i:=5) (by decide) rfl
def finC (x:ExD):List Value:=seg 32 (fun i=>u8 (x.regs i))++seg 6 (fun i=>u8 (x.mem i))
theorem zcc (x:ExD):(finC x).length=38:=by unfold finC;rw [List.length_append,zas,zas]
def zlt (x y:ExD):Bool:=(List.range 32).all (fun i=>decide (x.regs i=y.regs i))&&(List.range 6).all (fun i=>decide (x.mem i=y.mem i))
theorem zg7 {m n:Nat} {f:Nat→UInt8} {i j:Nat} (hi:i<m) (h:m*n≤1000) (hj:j<n):zaP (zaP (seg (m*n) (fun i=>u8 (f i))) (i*n) n) (j*1) 1=[u8 (f (i*n+j))]:=by
 have hlt:i*n+j<m*n:=by
  have:(i+1)*n≤m*n:=Nat.mul_le_mul_right n hi
  rw [Nat.succ_mul] at this
  omega
 apply List.ext_getElem?
 intro k
 unfold zaP
 rw [Nat.mul_one]
 cases k with
 | zero =>
  rw [List.getElem?_take_of_lt (by decide),List.getElem?_drop,Nat.add_zero,List.getElem?_take_of_lt hj,List.getElem?_drop,zdf _ hlt];rfl
 | succ k =>
  rw [List.getElem?_eq_none (by rw [List.length_take];omega),List.getElem?_eq_none (by simp)]
theorem zo9:∃ G,TyEq Tryz.prog 32 true 38 4 G∧∀ x:ExD,G (finC x):=by
 have r8:TyEq Tryz.prog 28 true 8 2 _ := .array (m:=8) (by decide) Tryz.underlying28 (fun w=>Tryz.isAgg28 w) (zaZ (by kernel_rfl) (by kernel_rfl)).1 (by kernel_rfl) tU8
 have r32:TyEq Tryz.prog 29 true 32 3 _ := .array (m:=4) (by decide) Tryz.underlying29 (fun w=>Tryz.isAgg29 w) (zaZ (by kernel_rfl) (by kernel_rfl)).1 (by kernel_rfl) r8
 have r6:TyEq Tryz.prog 30 true 6 2 _ := .array (m:=6) (by decide) Tryz.underlying30 (fun w=>Tryz.isAgg30 w) (zaZ (by kernel_rfl) (by kernel_rfl)).1 (by kernel_rfl) tU8
 refine⟨_,.struct (uf Tryz.underlying32).1 (by kernel_rfl) (fun w=>Tryz.isAgg32 w) (zaZ (by kernel_rfl) (by kernel_rfl)).1 (by kernel_rfl)
  (by rw [(uf Tryz.underlying32).2];exact .cons (by decide) rfl r32 (.cons (by decide) rfl (r6.up 1) .nil)),fun x=>?_⟩
 have e0:zaP (finC x) 0 32=seg (4*8) fun i=>u8 (x.regs i):=by
  unfold finC zaP
  rw [List.drop_zero,List.take_append_of_le_length (by rw [zas];decide),List.take_of_length_le (by rw [zas];decide)]
 have e1:zaP (finC x) 32 6=seg (1*6) fun i=>u8 (x.mem i):=by
  unfold finC zaP
  rw [List.drop_append_of_le_length (by rw [zas];decide),List.drop_of_length_le (by rw [zas];decide),List.nil_append,List.take_of_length_le (by rw [zas];decide)]
 refine⟨?_,?_,trivial⟩
 ·show ∀ i,i<4→∀ j,j<8→GInt .u8 (zaP (zaP (zaP (finC x) 0 32) (i*8) 8) (j*1) 1)
  intro i hi j hj
  rw [e0,zg7 hi (by decide) hj]
  exact⟨_,rfl⟩
 ·show ∀ j,j<6→GInt .u8 (zaP (zaP (finC x) 32 6) (j*1) 1)
  intro j hj
  rw [e1]
  have h:=zg7 (m:=1) (n:=6) (f:=x.mem) (i:=0) (j:=j) (by decide) (by decide) hj
  have h2:zaP (seg (1*6) fun i=>u8 (x.mem i)) (0*6) 6=seg (1*6) fun i=>u8 (x.mem i):=by
   unfold zaP
   rw [Nat.zero_mul,List.drop_zero,List.take_of_length_le (by rw [zas];decide)]
  rw [h2] at h
  rw [h]
  exact⟨_,rfl⟩
theorem zgh {n:Nat} {f g:Nat→UInt8}:seg n (fun i=>u8 (f i))=seg n (fun i=>u8 (g i))↔∀ i,i<n→f i=g i:=by
 constructor
 ·intro h i hi
  have h1:=zdf (n:=n) (fun i=>u8 (f i)) hi
  rw [h,zdf (n:=n) (fun i=>u8 (g i)) hi] at h1
  have h2:=Option.some.inj h1
  unfold u8 at h2
  injection h2 with _ h3
  exact (zbw.1 h3).symm
 ·intro h
  unfold seg
  exact List.map_congr_left fun i hi=>by rw [h i (List.mem_range.1 hi)]
theorem zil {x y:ExD}:finC x=finC y↔zlt x y=true:=by
 unfold zlt
 rw [Bool.and_eq_true,List.all_eq_true,List.all_eq_true]
 have hl:(seg 32 fun i=>u8 (x.regs i)).length=(seg 32 fun i=>u8 (y.regs i)).length:=by rw [zas,zas]
 constructor
 ·intro h
  unfold finC at h
  obtain⟨h1,h2⟩:=List.append_inj h hl
  exact⟨fun i hi=>decide_eq_true (zgh.1 h1 i (List.mem_range.1 hi)),fun i hi=>decide_eq_true (zgh.1 h2 i (List.mem_range.1 hi))⟩
 ·rintro⟨h1,h2⟩
  unfold finC
  rw [zgh.2 fun i hi=>of_decide_eq_true (h1 i (List.mem_range.2 hi)),zgh.2 fun i hi=>of_decide_eq_true (h2 i (List.mem_range.2 hi))]
theorem zov (u v:Operand) (x y:ExD) (w:World):(do eqGuard .eql 32 u v (.agg (finC x).toArray) (.agg (finC y).toArray);binOp .eql 32 (.agg (finC x).toArray) (.agg (finC y).toArray)).run Tryz.prog w = .ok (.bool (zlt x y)) w:=by
 obtain⟨G,h1,h2⟩:=zo9
 have:=zjh h1 9996 rfl (by kernel_rfl) (zcc x) (zcc y) (h2 x) (h2 y) u v w
 rw [this,zcZ zil,Bool.decide_eq_true]
theorem zn1 (u v:Operand) (x y:ExD) (w:World):(do eqGuard .neq 32 u v (.agg (finC x).toArray) (.agg (finC y).toArray);binOp .neq 32 (.agg (finC x).toArray) (.agg (finC y).toArray)).run Tryz.prog w = .ok (.bool (!zlt x y)) w:=by
 obtain⟨G,h1,h2⟩:=zo9
 have:=zk9 h1 9996 rfl (by kernel_rfl) (zcc x) (zcc y) (h2 x) (h2 y) u v w
 rw [this,zcZ zil,Bool.decide_eq_true]
theorem zjf {X:World} {b:Nat} {x:ExD} {q:Option Addr} {c:Nat} (fx:ExH X b x q c):zau X ⟨b,0+295,none⟩ (finC x):=by
 have h:=zaw (n:=295) (m:=38) (zaa fx)
 have e:((exC x q c).toArray.toList.drop 295).take 38=finC x:=by
  show ((exC x q c).drop 295).take 38=_
  have e2:exC x q c=(.slice q x.ev.length c::(relC x.po++(relC x.rf++(relC x.co++(relC x.dt++(relC x.ct++relC x.rm))))))++finC x:=by
   unfold exC finC
   simp only [List.append_assoc,List.cons_append]
  have e3:(Value.slice q x.ev.length c::(relC x.po++(relC x.rf++(relC x.co++(relC x.dt++(relC x.ct++relC x.rm)))))).length=295:=by simp only [List.length_cons,List.length_append,zaf]
  rw [e2,← e3,List.drop_left,List.take_of_length_le (by rw [zcc];decide)]
 rw [e] at h
 exact h
def zbp (x y:ExD):Bool:=zbI x.po y.po&&(zbI x.rf y.rf&&(zbI x.co y.co&&(zbI x.dt y.dt&&(zbI x.ct y.ct&&(zbI x.rm y.rm&&zlt x y)))))
def zcG (x y:ExD):Bool:=decide (x.ev.length=y.ev.length)&&((List.range x.ev.length).all (fun i=>decide (evA x i=evA y i))&&zbp x y)
theorem zds (a:RelD):zbI a a=true:=ze2.1 rfl
theorem zg8 (x:ExD):zcG x x=true:=by
 unfold zcG zbp
 rw [zds,zds,zds,zds,zds,zds,zil.1 rfl]
 simp
theorem ziS {n i:Nat} {f:Nat→Bool} (hi:i<n) (h:f i=false):(List.range n).all f=false:=by
 rw [List.all_eq_false]
 exact⟨i,List.mem_range.2 hi,by rw [h];decide⟩
theorem zhh {n:Nat} {f:Nat→Bool} (h:∀ i,i<n→f i=true):(List.range n).all f=true:=by
 rw [List.all_eq_true]
 exact fun i hi=>h i (List.mem_range.1 hi)
theorem zfQ {k:Nat} {f:Nat→Bool} (h:∀ i,i<k→f i=true) (hk:f k=true):∀ i,i<k+1→f i=true:=fun i hi=>by
 by_cases e:i=k
 ·rw [e];exact hk
 ·exact h i (by omega)
section
variable {w:World} {c d:Nat} {x y:ExD} {q r:Option Addr}
theorem zgV (hx0:SlR evE w q x.ev) (hy0:SlR evE w r y.ev) (hl:x.ev.length<4611686018427387904):Calls Tryz.prog 10 #[.agg (exC x q c).toArray,.agg (exC y r d).toArray] w fun e w'=>e = .returned (.bool (zcG x y))∧Below w.heap.size w w':=by
 refine zal (S:=sg 78) (sgOk _) (args:=[.agg (exC x q c).toArray,.agg (exC y r d).toArray]) (.c .p (.c .p (.c .p .p))) Tryz.func10 rfl rfl (Nat.le_of_ble_eq_true rfl) rfl ?_
 obtain⟨L,hL⟩:=nm (w.heap.size)
 refine⟨Unit,fun _=>⟨[(2,At0 L),(3,At0 (L+1))],[]⟩,fun _ X=>ExH X L x q c∧ExH X (L+1) y r d∧Below w.heap.size w X,?_,?_⟩
 ·have s1:=World.size_alloc w (.cells (exC x q c).toArray 34)
  have h2:=hnew (w.alloc (.cells (exC x q c).toArray 34)) (.cells (exC y r d).toArray 34)
  rw [s1] at h2
  have b1:Below w.heap.size w (w.alloc (.cells (exC x q c).toArray 34)):=(Below.refl _ w).alloc (Nat.le_refl _) _
  exact⟨(),⟨.cons (by rw [hL];rfl) (.cons (by rw [hL,← s1];rfl) .nil),rfl⟩,by rw [hL];exact hold _ (hnew w _),by rw [hL];exact h2,b1.alloc b1.size _⟩
 rintro _ X ⟨fX,fY,hbX⟩
 refine⟨Unit,fun _=>⟨[(2,At0 L),(3,At0 (L+1))],[]⟩,fun _ Z=>x.ev.length=y.ev.length∧ExH Z L x q c∧ExH Z (L+1) y r d∧Below w.heap.size w Z,?_,?_⟩
 ·refine⟨_,zaT (zaa fX),?_⟩
  refine⟨_,zaT (zaa fY),?_⟩
  refine biE (fun h1=>?_) fun h1=>?_
  ·have h1:=notB h1
   exact⟨rb (by unfold zcG;rw [decide_eq_false (fun e=>(of_decide_eq_false h1) (by rw [e])),Bool.false_and]),hbX⟩
  ·have h1:=notF h1
   exact⟨(),(cvE rfl rfl),Int.ofNat.inj (of_decide_eq_true h1),fX,fY,hbX⟩
 clear fX fY hbX
 rintro _ X ⟨hlen,fX,fY,hbX⟩
 have hs:zcG x y=((List.range x.ev.length).all (fun i=>decide (evA x i=evA y i))&&zbp x y):=by unfold zcG;rw [decide_eq_true hlen];rfl
 rw [hs]
 refine⟨Unit,fun _=>⟨[(2,At0 L),(3,At0 (L+1))],[]⟩,fun _ Z=>(List.range x.ev.length).all (fun i=>decide (evA x i=evA y i))=true∧ExH Z L x q c∧ExH Z (L+1) y r d∧Below w.heap.size w Z,?_,?_⟩
 ·refine⟨_,zaT (zaa fX),?_⟩
  refine⟨Nat,fun i=>⟨[(2,At0 L),(3,At0 (L+1)),(15,i64 x.ev.length),(16,i64 (i:Nat))],[]⟩,fun i Z=>i≤x.ev.length∧(∀ j,j<i→decide (evA x j=evA y j)=true)∧ExH Z L x q c∧ExH Z (L+1) y r d∧Below w.heap.size w Z,fun i=>x.ev.length-i,0,(cvE rfl rfl),⟨Nat.zero_le _,fun j hj=>by omega,fX,fY,hbX⟩,?_⟩
  clear fX fY hbX
  rintro i X ⟨hi,hall,fX,fY,hbX⟩
  dsimp only
  refine biE (fun hc=>?_) fun hc=>?_
  ·have hc:(i:Int)<(x.ev.length:Int):=of_decide_eq_true hc
   have hin:i<x.ev.length:=by omega
   obtain⟨bx,ox,hqx,hbx,hatx⟩:=zdk hx0 (by omega)
   obtain⟨by_,oy,hqy,hby,haty⟩:=zdk hy0 (by omega)
   subst hqx hqy
   have hx:bx<w.heap.size∧∀ i,i<x.ev.length→zau w ⟨bx,ox+i*7,none⟩ (evE.enc (evA x i)):=⟨hbx,hatx⟩
   have hy:by_<w.heap.size∧∀ i,i<y.ev.length→zau w ⟨by_,oy+i*7,none⟩ (evE.enc (evA y i)):=⟨hby,haty⟩
   have dX:Below X.heap.size X X.drew:=(Below.refl _ _).drew
   refine DrawE.ord [] [0,1,2,3,4,5,6,7,8,9,10] (by kernel_rfl) ?_
   replace fX:=zab dX fX
   replace fY:=zab dX fY
   replace hbX:=hbX.trans (dX.mono hbX.size)
   refine⟨_,zaT (zaa fX),?_⟩
   refine⟨i,rfl,by omega,?_⟩
   refine⟨_,rfl,zag hbX (hx.2 i (by omega)),Nat.lt_of_lt_of_le hx.1 hbX.size,?_⟩
   refine⟨_,zaT (zaa fY),?_⟩
   refine⟨i,rfl,by omega,?_⟩
   refine⟨_,rfl,zag hbX (hy.2 i (by omega)),Nat.lt_of_lt_of_le hy.1 hbX.size,?_⟩
   refine⟨_,fun w=>zi4 _ _ _ _ w,?_⟩
   refine biE (fun h1=>?_) fun h1=>?_
   ·have h1:=notB h1
    exact⟨rb (by rw [ziS hin h1];rfl),hbX⟩
   ·have h1:=notF h1
    refine⟨((i+1:Nat):Int),(zad (by omega)).trans (by omega),?_⟩
    exact⟨i+1,(cvE rfl rfl),⟨hin,zfQ hall h1,fX,fY,hbX⟩,by show x.ev.length-(i+1)<x.ev.length-i;omega⟩
  ·have hc:¬ (i:Int)<(x.ev.length:Int):=of_decide_eq_false hc
   exact⟨(),(cvE rfl rfl),zhh fun j hj=>hall j (by omega),fX,fY,hbX⟩
 clear fX fY hbX
 rintro _ X ⟨hev,fX,fY,hbX⟩
 rw [hev,Bool.true_and]
 unfold zbp
 refine⟨_,zaf _,r_po fX,hlt fX,?_⟩
 refine⟨_,zaf _,r_po fY,hlt fY,?_⟩
 refine⟨_,fun w=>zcY _ _ _ _ w,?_⟩
 refine biE (fun h1=>?_) fun h1=>?_
 ·refine⟨_,zaf _,r_rf fX,hlt fX,?_⟩
  refine⟨_,zaf _,r_rf fY,hlt fY,?_⟩
  refine⟨_,fun w=>zcY _ _ _ _ w,?_⟩
  refine biE (fun h2=>?_) fun h2=>?_
  ·refine⟨_,zaf _,r_co fX,hlt fX,?_⟩
   refine⟨_,zaf _,r_co fY,hlt fY,?_⟩
   refine⟨_,fun w=>zcY _ _ _ _ w,?_⟩
   refine biE (fun h3=>?_) fun h3=>?_
   ·refine⟨_,zaf _,r_dt fX,hlt fX,?_⟩
    refine⟨_,zaf _,r_dt fY,hlt fY,?_⟩
    refine⟨_,fun w=>zcY _ _ _ _ w,?_⟩
    refine biE (fun h4=>?_) fun h4=>?_
    ·refine⟨_,zaf _,r_ct fX,hlt fX,?_⟩
     refine⟨_,zaf _,r_ct fY,hlt fY,?_⟩
     refine⟨_,fun w=>zcY _ _ _ _ w,?_⟩
     refine biE (fun h5=>?_) fun h5=>?_
     ·refine⟨_,zaf _,r_rm fX,hlt fX,?_⟩
      refine⟨_,zaf _,r_rm fY,hlt fY,?_⟩
      refine⟨_,fun w=>zcY _ _ _ _ w,?_⟩
      refine biE (fun h6=>?_) fun h6=>?_
      ·refine⟨_,zcc _,zjf fX,hlt fX,?_⟩
       refine⟨_,zcc _,zjf fY,hlt fY,?_⟩
       refine⟨_,fun w=>zov _ _ x y w,?_⟩
       exact⟨rb (by simp [h1,h2,h3,h4,h5,h6]),hbX⟩
      ·exact⟨rb (by simp [h1,h2,h3,h4,h5,h6]),hbX⟩
     ·refine brF ?_
      exact⟨rb (by simp [h1,h2,h3,h4,h5]),hbX⟩
    ·refine brF ?_
     refine brF ?_
     exact⟨rb (by simp [h1,h2,h3,h4]),hbX⟩
   ·refine brF ?_
    refine brF ?_
    refine brF ?_
    exact⟨rb (by simp [h1,h2,h3]),hbX⟩
  ·refine brF ?_
   refine brF ?_
   refine brF ?_
   refine brF ?_
   exact⟨rb (by simp [h1,h2]),hbX⟩
 ·refine brF ?_
  refine brF ?_
  refine brF ?_
  refine brF ?_
  refine brF ?_
  exact⟨rb (by simp [h1]),hbX⟩
theorem zm7 (hx0:SlR evE w q x.ev) (hy0:SlR evE w r y.ev) (hl:x.ev.length<4611686018427387904):Calls Tryz.prog 11 #[.agg (exC x q c).toArray,.agg (exC y r d).toArray] w fun e w'=>e = .returned (.bool (zcG x y))∧Below w.heap.size w w':=by
 refine zal (S:=sg 80) (sgOk _) (args:=[.agg (exC x q c).toArray,.agg (exC y r d).toArray]) (.c .p (.c .p .p)) Tryz.func11 rfl rfl (Nat.le_of_ble_eq_true rfl) rfl ?_
 obtain⟨L,hL⟩:=nm (w.heap.size)
 refine⟨Unit,fun _=>⟨[(2,At0 L),(3,At0 (L+1))],[]⟩,fun _ X=>ExH X L x q c∧ExH X (L+1) y r d∧Below w.heap.size w X,?_,?_⟩
 ·have s1:=World.size_alloc w (.cells (exC x q c).toArray 34)
  have h2:=hnew (w.alloc (.cells (exC x q c).toArray 34)) (.cells (exC y r d).toArray 34)
  rw [s1] at h2
  have b1:Below w.heap.size w (w.alloc (.cells (exC x q c).toArray 34)):=(Below.refl _ w).alloc (Nat.le_refl _) _
  exact⟨(),⟨.cons (by rw [hL];rfl) (.cons (by rw [hL,← s1];rfl) .nil),rfl⟩,by rw [hL];exact hold _ (hnew w _),by rw [hL];exact h2,b1.alloc b1.size _⟩
 rintro _ X ⟨fX,fY,hbX⟩
 refine⟨Unit,fun _=>⟨[(2,At0 L),(3,At0 (L+1))],[]⟩,fun _ Z=>(x.ev.length=y.ev.length∧zbp x y=true)∧ExH Z L x q c∧ExH Z (L+1) y r d∧Below w.heap.size w Z,?_,?_⟩
 ·refine⟨_,zaT (zaa fX),?_⟩
  refine⟨_,zaT (zaa fY),?_⟩
  refine biE (fun h1=>?_) fun h1=>?_
  ·have h1:=notB h1
   refine brT ?_
   refine brT ?_
   refine brT ?_
   refine brT ?_
   refine brT ?_
   refine brT ?_
   refine brT ?_
   exact⟨rb (by unfold zcG;rw [decide_eq_false (fun e=>(of_decide_eq_false h1) (by rw [e])),Bool.false_and]),hbX⟩
  ·have h1:=notF h1
   refine⟨_,zaf _,r_po fX,hlt fX,?_⟩
   refine⟨_,zaf _,r_po fY,hlt fY,?_⟩
   refine⟨_,fun w=>zeo _ _ _ _ w,?_⟩
   refine biE (fun h2=>?_) fun h2=>?_
   ·have h2:=notB h2
    refine brT ?_
    refine brT ?_
    refine brT ?_
    refine brT ?_
    refine brT ?_
    refine brT ?_
    exact⟨rb (by unfold zcG zbp;simp [h2]),hbX⟩
   ·have h2:=notF h2
    refine⟨_,zaf _,r_rf fX,hlt fX,?_⟩
    refine⟨_,zaf _,r_rf fY,hlt fY,?_⟩
    refine⟨_,fun w=>zeo _ _ _ _ w,?_⟩
    refine biE (fun h3=>?_) fun h3=>?_
    ·have h3:=notB h3
     refine brT ?_
     refine brT ?_
     refine brT ?_
     refine brT ?_
     refine brT ?_
     exact⟨rb (by unfold zcG zbp;simp [h2,h3]),hbX⟩
    ·have h3:=notF h3
     refine⟨_,zaf _,r_co fX,hlt fX,?_⟩
     refine⟨_,zaf _,r_co fY,hlt fY,?_⟩
     refine⟨_,fun w=>zeo _ _ _ _ w,?_⟩
     refine biE (fun h4=>?_) fun h4=>?_
     ·have h4:=notB h4
      refine brT ?_
      refine brT ?_
      refine brT ?_
      refine brT ?_
      exact⟨rb (by unfold zcG zbp;simp [h2,h3,h4]),hbX⟩
     ·have h4:=notF h4
      refine⟨_,zaf _,r_dt fX,hlt fX,?_⟩
      refine⟨_,zaf _,r_dt fY,hlt fY,?_⟩
      refine⟨_,fun w=>zeo _ _ _ _ w,?_⟩
      refine biE (fun h5=>?_) fun h5=>?_
      ·have h5:=notB h5
       refine brT ?_
       refine brT ?_
       refine brT ?_
       exact⟨rb (by unfold zcG zbp;simp [h2,h3,h4,h5]),hbX⟩
      ·have h5:=notF h5
       refine⟨_,zaf _,r_ct fX,hlt fX,?_⟩
       refine⟨_,zaf _,r_ct fY,hlt fY,?_⟩
       refine⟨_,fun w=>zeo _ _ _ _ w,?_⟩
       refine biE (fun h6=>?_) fun h6=>?_
       ·have h6:=notB h6
        refine brT ?_
        refine brT ?_
        exact⟨rb (by unfold zcG zbp;simp [h2,h3,h4,h5,h6]),hbX⟩
       ·have h6:=notF h6
        refine⟨_,zaf _,r_rm fX,hlt fX,?_⟩
        refine⟨_,zaf _,r_rm fY,hlt fY,?_⟩
        refine⟨_,fun w=>zeo _ _ _ _ w,?_⟩
        refine biE (fun h7=>?_) fun h7=>?_
        ·have h7:=notB h7
         refine brT ?_
         exact⟨rb (by unfold zcG zbp;simp [h2,h3,h4,h5,h6,h7]),hbX⟩
        ·have h7:=notF h7
         refine⟨_,zcc _,zjf fX,hlt fX,?_⟩
         refine⟨_,zcc _,zjf fY,hlt fY,?_⟩
         refine⟨_,fun w=>zn1 _ _ x y w,?_⟩
         refine biE (fun h8=>?_) fun h8=>?_
         ·have h8:=notB h8
          exact⟨rb (by unfold zcG zbp;simp [h2,h3,h4,h5,h6,h7,h8]),hbX⟩
         ·have h8:=notF h8
          exact⟨(),(cvE rfl rfl),⟨Int.ofNat.inj (of_decide_eq_true h1),by unfold zbp;simp [h2,h3,h4,h5,h6,h7,h8]⟩,fX,fY,hbX⟩
 clear fX fY hbX
 rintro _ X ⟨⟨hlen,hrel⟩,fX,fY,hbX⟩
 have hs:zcG x y=(List.range x.ev.length).all (fun i=>decide (evA x i=evA y i)):=by unfold zcG;rw [decide_eq_true hlen,hrel,Bool.and_true];rfl
 rw [hs]
 refine⟨Nat,fun i=>⟨[(2,At0 L),(3,At0 (L+1)),(5,i64 (i:Nat))],[]⟩,fun i Z=>i≤x.ev.length∧(∀ j,j<i→decide (evA x j=evA y j)=true)∧ExH Z L x q c∧ExH Z (L+1) y r d∧Below w.heap.size w Z,fun i=>x.ev.length-i,0,(cvE rfl rfl),⟨Nat.zero_le _,fun j hj=>by omega,fX,fY,hbX⟩,?_⟩
 clear fX fY hbX
 rintro i X ⟨hi,hall,fX,fY,hbX⟩
 dsimp only
 refine⟨_,zaT (zaa fX),?_⟩
 refine biE (fun hc=>?_) fun hc=>?_
 ·have hc:(i:Int)<(x.ev.length:Int):=of_decide_eq_true hc
  have hin:i<x.ev.length:=by omega
  obtain⟨bx,ox,hqx,hbx,hatx⟩:=zdk hx0 (by omega)
  obtain⟨by_,oy,hqy,hby,haty⟩:=zdk hy0 (by omega)
  subst hqx hqy
  have hx:bx<w.heap.size∧∀ i,i<x.ev.length→zau w ⟨bx,ox+i*7,none⟩ (evE.enc (evA x i)):=⟨hbx,hatx⟩
  have hy:by_<w.heap.size∧∀ i,i<y.ev.length→zau w ⟨by_,oy+i*7,none⟩ (evE.enc (evA y i)):=⟨hby,haty⟩
  have dX:Below X.heap.size X X.drew:=(Below.refl _ _).drew
  refine DrawE.ord [] [0,1,2,3,4,5,6,7,8,9,10] (by kernel_rfl) ?_
  replace fX:=zab dX fX
  replace fY:=zab dX fY
  replace hbX:=hbX.trans (dX.mono hbX.size)
  refine⟨_,zaT (zaa fX),?_⟩
  refine⟨i,rfl,by omega,?_⟩
  refine⟨_,rfl,zag hbX (hx.2 i (by omega)),Nat.lt_of_lt_of_le hx.1 hbX.size,?_⟩
  refine⟨_,zaT (zaa fY),?_⟩
  refine⟨i,rfl,by omega,?_⟩
  refine⟨_,rfl,zag hbX (hy.2 i (by omega)),Nat.lt_of_lt_of_le hy.1 hbX.size,?_⟩
  refine⟨_,fun w=>zi4 _ _ _ _ w,?_⟩
  refine biE (fun h1=>?_) fun h1=>?_
  ·have h1:=notB h1
   exact⟨rb (by rw [ziS hin h1]),hbX⟩
  ·have h1:=notF h1
   refine⟨((i+1:Nat):Int),(zad (by omega)).trans (by omega),?_⟩
   exact⟨i+1,(cvE rfl rfl),⟨hin,zfQ hall h1,fX,fY,hbX⟩,by show x.ev.length-(i+1)<x.ev.length-i;omega⟩
 ·have hc:¬ (i:Int)<(x.ev.length:Int):=of_decide_eq_false hc
  exact⟨rb (zhh fun j hj=>hall j (by omega)).symm,hbX⟩
end
end Go.Proofs.YtmbghmhjjodgmaaGreatDoor
namespace Go.Sei
def zdX (ns:List Nat):Nat:=ns.foldl (· * ·) 1
theorem zfS (ns:List Nat) (n:Nat):zdX (ns++[n])=zdX ns*n:=by
 unfold zdX
 rw [List.foldl_append];rfl
def zlc (init:List UInt8) (Ts:List (List PathD)):List MixD:=(zdS (Ts.map List.length)).filterMap fun ds=>mixR init (zdZ Ts ds)
theorem zfT:∀ (Ts:List (List PathD)) (ds:List Nat) (T:List PathD) (d:Nat),Ts.length=ds.length→zdZ (Ts++[T]) (ds++[d])=zdZ Ts ds++(match T[d]? with | some P=>[P] | none=>[])
 | [],[],T,d,_=>by
  show (match T[d]? with | some P=>[P] | none=>[])++[]=_
  rw [List.append_nil];rfl
 | [],_::_,_,_,h=>by simp at h
 | _::_,[],_,_,h=>by simp at h
 | A::Ts,e::ds,T,d,h=>by
  show (match A[e]? with | some P=>[P] | none=>[])++zdZ (Ts++[T]) (ds++[d])=((match A[e]? with | some P=>[P] | none=>[])++zdZ Ts ds)++_
  rw [zfT Ts ds T d (by simpa using h),List.append_assoc]
theorem zjR (ns:List Nat) (n:Nat):zaS (ns++[n])=zaS ns*n:=by
 rw [zdY]
 show _*(n*1)=_
 rw [Nat.mul_one]
theorem zhC:∀ (ns:List Nat) (a:Nat),ns.foldl (· * ·) a=a*zaS ns
 | [],a=>(Nat.mul_one a).symm
 | n::ns,a=>by
  show ns.foldl (· * ·) (a*n)=a*(n*zaS ns)
  rw [zhC ns,Nat.mul_assoc]
theorem zkX:∀ ns:List Nat,zaS ns.reverse=zdX ns:=fun ns=>by
 have h:∀ l:List Nat,zaS l.reverse=zaS l:=fun l=>by
  induction l with
  | nil=>rfl
  | cons n l ih =>
   rw [List.reverse_cons,zjR,ih]
   exact Nat.mul_comm _ _
 rw [h]
 unfold zdX
 rw [zhC,Nat.one_mul]
end Go.Sei
namespace Go.Proofs.YtmbghmhjjodgmaaGreatDoor
open Go.Vc Go.RowKit Go.Sei
theorem zoL {b o:Nat} {w:World}:Calls Tryz.prog 85 #[.pointer (some ⟨b,o,none⟩)] w fun e w'=>e = .returned (.func (.func 117) #[] #[At0 w.heap.size])∧w'.heap[w.heap.size]?=some (.cells #[.pointer (some ⟨b,o,none⟩)] 171 (0,0))∧w'.heap.size=w.heap.size+1∧Below w.heap.size w w':=by
 refine zae (S:=sg 4) (sgOk _) (args:=[.pointer (some ⟨b,o,none⟩)]) Tryz.func85 rfl rfl (Nat.le_of_ble_eq_true rfl) rfl ?_
 exact⟨rfl,hnew w _,World.size_alloc _ _,(Below.refl _ w).alloc (Nat.le_refl _) _⟩
def NInX (B:Nat) (F:Nat→Prop) (Y:World) (x:exE3):Prop:=OwnS evE 54 B Y x.2.1 x.2.2 x.1.ev∧∀ a,x.2.1=some a→F a.block
theorem zfd (B:Nat):zkf 34 61 (NInX B):=by
 rintro F G Y Z x ⟨h1,h2⟩ hs hg
 refine⟨h1.same fun a ha=>?_,fun a ha=>hg _ (h2 a ha)⟩
 obtain⟨_,_,cur,hc⟩:=zaq h1 ha
 exact hs _ cur _ (h2 a ha) hc (by decide) (by decide)
theorem ziD {B B1 bx c0:Nat} {p0:Option Addr} {l0:List exE3} {xs:List ExD} {w W0:World} {Rd:Nat→Prop} {pm:Value} (ho:OwnS exE 34 B w p0 c0 l0) (hn:∀ x∈l0,OwnS evE 54 B w x.2.1 x.2.2 x.1.ev) (hB:B≤w.heap.size)
  (hI:zo0 Tryz.prog 117 [At0 bx] xs W0 Rd (StX B1) GvX) (hW0:W0.heap.size≤w.heap.size) (hRd:∀ k,Rd k→k<W0.heap.size∧w.heap[k]?=W0.heap[k]?) (hRB:∀ k,Rd k→k<B∨k=bx) (fb:w.heap[bx]?=some (.cells #[pm] 171 (0,0))) (hB1:B≤B1) (hlen:l0.length+xs.length≤30000) :
  Calls Tryz.prog 84 #[.slice p0 l0.length c0,.func (.func 117) #[] #[At0 bx]] w fun e w'=>(∃ (new:List exE3) (p:Option Addr) (c:Nat),e = .returned (.slice p (l0++new).length c)∧new.map (·.1)=xs∧OwnS exE 34 B w' p c (l0++new)∧∀ x∈l0++new,OwnS evE 54 B w' x.2.1 x.2.2 x.1.ev)∧Below B w w':=by
 refine zal (S:=sg 13) (sgOk _) (args:=[.slice p0 l0.length c0,.func (.func 117) #[] #[At0 bx]]) (.c .p .p) Tryz.func84 rfl rfl (Nat.le_of_ble_eq_true rfl) rfl ?_
 obtain⟨L,hL⟩:=nm (w.heap.size)
 refine⟨Unit,fun _=>⟨[(1,.func (.func 117) #[] #[At0 bx]),(2,At0 L)],[]⟩,fun _ X=>X.heap[L]?=some (.cells [.slice p0 l0.length c0].toArray 61 (0,0))∧X.heap.size=L+1∧Below w.heap.size w X,?_,?_⟩
 ·exact⟨(),⟨.cons rfl (.cons (by rw [hL];rfl) .nil),rfl⟩,by rw [hL];exact hnew w _,by rw [hL];exact World.size_alloc _ _,(Below.refl _ w).alloc (Nat.le_refl _) _⟩
 rintro _ W ⟨fL,sW,hbW⟩
 have hbxw:=hlt fb
 obtain⟨F0,hF0⟩:∃ F0:Nat→Prop,F0=fun k=>k=L∨(∃ a,p0=some a∧k=a.block)∨∃ x∈l0,∃ a,x.2.1=some a∧k=a.block:=⟨_,rfl⟩
 have hF0B:∀ k,F0 k→B≤k∧k<W.heap.size∧(k≠L→k≠bx):=by
  intro k hk
  rw [hF0] at hk
  rcases hk with rfl | ⟨a,ha,rfl⟩ | ⟨x,hx,a,ha,rfl⟩
  ·exact⟨by omega,by omega,fun h=>(h rfl).elim⟩
  ·obtain⟨h1,h2,cur,h3⟩:=zaq ho ha
   exact⟨h1,by omega,fun _ e=>by rw [e,fb] at h3;simp at h3⟩
  ·obtain⟨h1,h2,cur,h3⟩:=zaq (hn x hx) ha
   exact⟨h1,by omega,fun _ e=>by rw [e,fb] at h3;simp at h3⟩
 have hG0:Gath exE 34 61 B W.heap.size L W (NInX B) l0 F0 W:=by
  refine⟨Nat.le_refl _,by rw [hF0];exact .inl rfl,fun k hk=>(hF0B k hk).2.1,⟨p0,c0,fL,ho.below hbW,fun a ha=>by rw [hF0];exact .inr (.inl ⟨a,ha,rfl⟩)⟩,fun x hx=>⟨(hn x hx).below hbW,fun a ha=>by rw [hF0];exact .inr (.inr ⟨x,hx,a,ha,rfl⟩)⟩,Below.refl _ _⟩
 refine zpj (sgOk _) rfl (lb := #[At0 bx]) rfl rfl hI (fun pre vs W k ⟨x,q,c,h1,h2,h3⟩ ⟨x',a,c',h4,h5⟩=>?_) (by have:=hbW.size;omega) (fun k hk=>⟨(hRd k hk).1,?_⟩) (fun pre vs W ⟨x,q,c,_,h,_⟩=>by rw [h];rfl) (by decide)
  F0 (fun pre F Y=>∃ xs',(∃ new,xs'=l0++new∧new.map (·.1)=pre∧new.length≤xs.length)∧Gath exE 34 61 B W.heap.size L W (NInX B) xs' F Y) (fun k hk=>?_) (Gath.iter (zfd B) (by omega)) ⟨l0,⟨[],by simp,rfl,Nat.zero_le _⟩,hG0⟩ ?_ ?_
 ·rw [h2] at h4
  have h6:exC x q c=exC x' (some a) c':=by
   have h7:=Value.agg.inj (List.head_eq_of_cons_eq h4)
   simpa using h7
  have h8:Value.slice q x.ev.length c=Value.slice (some a) x'.ev.length c':=List.head_eq_of_cons_eq h6
  have h9:q=some a:=by injection h8
  obtain⟨_,_,cur,hc⟩:=zaq h3 h9
  rw [h5]
  exact⟨_,_,_,hc⟩
 ·rw [← (hRd k hk).2]
  exact hbW.block k (by have:=(hRd k hk).1;omega)
 ·intro h
  obtain⟨h1,h2,h3⟩:=hF0B k h
  have h4:=(hRd k hk).1
  rcases hRB k hk with h5 | h5
  ·omega
  ·exact h3 (by omega) h5
 ·rintro yl pre x vs F Y hyl hpre ⟨xs',⟨new,rfl,hnew',hnl⟩,hG⟩ ⟨x',q,c,hlast,rfl,oq⟩ hgv hfy ⟨lo,hlo⟩
  have hxx:x=x':=by simpa using hlast
  subst hxx
  have hYs:=hG.size
  refine zap (X:=Y) (v := .agg (exC x q c).toArray) (ttOk.get 34 _ rfl) (zav _ _ _) zaF (zdj _ _ _) fun Z hbZ fZ sZ=>?_
  have fZ:ExH Z Y.heap.size x q c:=fZ
  obtain⟨F1,hF1⟩:∃ F1:Nat→Prop,F1=fun k=>F k∨GvX [.agg (exC x q c).toArray] k:=⟨_,rfl⟩
  rw [← hF1]
  have hq1:∀ a,q=some a→F1 a.block:=fun a ha=>by
   rw [hF1]
   exact .inr ⟨x,a,c,by rw [ha],rfl⟩
  have hgq:∀ k,GvX [.agg (exC x q c).toArray] k→∃ a,q=some a∧k=a.block:=by
   rintro k ⟨x',a,c',h4,h5⟩
   have h6:exC x q c=exC x' (some a) c':=by
    have h7:=Value.agg.inj (List.head_eq_of_cons_eq h4)
    simpa using h7
   have h8:Value.slice q x.ev.length c=Value.slice (some a) x'.ev.length c':=List.head_eq_of_cons_eq h6
   have h9:q=some a:=by injection h8
   exact⟨a,h9,h5⟩
  have hlt1:∀ k,F1 k→k<Y.heap.size:=fun k hk=>by
   rw [hF1] at hk
   rcases hk with hk | hk
   ·exact hG.lt k hk
   ·obtain⟨a,ha,rfl⟩:=hgq k hk
    exact (zaq oq ha).2.1
  have hFF:∀ k,F k→F1 k:=fun k hk=>by rw [hF1];exact .inl hk
  have hG1:Gath exE 34 61 B W.heap.size L W (NInX B) (l0++new) F1 Z:=by
   obtain⟨p,c',h1,h2,h3⟩:=hG.row
   have sZ:=hbZ.size
   exact⟨by omega,hFF _ hG.inL,fun k hk=>by have:=hlt1 k hk;omega,⟨p,c',zab hbZ h1,h2.below hbZ,fun a ha=>hFF _ (h3 a ha)⟩,fun y hy=>⟨(hG.nest y hy).1.below hbZ,fun a ha=>hFF _ ((hG.nest y hy).2 a ha)⟩,hG.old.trans (hbZ.mono (by omega))⟩
  refine⟨rfl,F1,KeepsG.below hbZ fun k hk => .inl hk,⟨_,⟨new,rfl,hnew',hnl⟩,hG1⟩,?_⟩
  rintro O Y2 hY2 ⟨xs2,⟨new2,rfl,hnew2,hnl2⟩,hG2⟩
  clear hG1 hnew' hnl hG
  have hYl:=hlt hlo
  have fY:ExH Y2 Y.heap.size x q c:=by rw [hY2];exact (zai (by omega)).trans fZ
  have oq2:OwnS evE 54 B1 Y2 q c x.ev:=by
   rw [hY2]
   refine (oq.below hbZ).same fun a ha=>zai fun e=>?_
   obtain⟨_,_,cur,hc⟩:=zaq oq ha
   rw [e,hlo] at hc
   cases hc
  obtain⟨p,c',h4,h5,h6⟩:=hG2.row
  refine⟨_,zac (zaa h4) (i:=0) rfl,?_⟩
  refine⟨exC x q c,zav _ _ _,zaa fY,hlt fY,?_⟩
  obtain⟨nx,hnx⟩:∃ nx:exE3,nx=(x,q,c):=⟨_,rfl⟩
  have hen:exC x q c=exE.enc nx:=by rw [hnx];rfl
  have hpl:pre.length<xs.length:=by
   obtain⟨t,ht⟩:=hpre
   rw [← ht]
   simp only [List.length_append,List.length_cons]
   omega
  have hn2:new2.length=pre.length:=by rw [← hnew2,List.length_map]
  refine⟨⟨by decide,by decide,zaF⟩,exE.enc nx,by rw [← hen];exact zcy (zav _ _ _) zaF,?_⟩
  have hw2:W.heap.size≤Y2.heap.size:=hG2.size
  obtain⟨v,Y5,hrun,S,hrun2,F',hG',hK',hFF'⟩:=hG2.stepX (P:=Tryz.prog) (ty:=61) (cap1:=1) (zfd B) (by decide) Tryz.underlying61 (ttOk.get 34 _ rfl) rfl rfl (by show _=333;exact zaF) (ttOk.get 61 _ rfl) rfl (by omega) (by omega) (Below.refl _ _) nx (by rw [List.length_append];omega) (by rw [List.length_append];show (_+1)*2416≤_;omega)
   (fun G Z _ _ h3 h4=>zfd B F1 G Y2 Z nx ⟨by rw [hnx];exact oq2.lower hB1,fun a ha=>by rw [hnx] at ha;exact hq1 a ha⟩ h3 h4) p c' h4
  unfold opsE zcN
  refine SatR.mk hrun ?_
  refine SatR.mk hrun2 ?_
  exact⟨F',⟨_,⟨new2++[nx],by rw [List.append_assoc],by rw [List.map_append,hnew2,hnx];rfl,by rw [List.length_append];show _+1≤_;omega⟩,hG'⟩,hK'⟩
 ·rintro D F Y hD hfD ⟨xs',⟨new,rfl,hnew',hnl⟩,hG⟩ hdef
  obtain⟨p,c',h4,h5,h6⟩:=hG.row
  refine⟨_,zac (zaa h4) (i:=0) rfl,?_⟩
  refine⟨_,rfl,hdef,?_⟩
  have kp:∀ a:Addr,F a.block→(Y.putObj D (.deferred none)).heap[a.block]?=Y.heap[a.block]?:=fun a h2=>zai fun e=>by rw [← e] at hfD;exact hfD h2
  exact⟨⟨new,p,c',rfl,hnew',h5.same fun a ha=>kp a (h6 a ha),fun x hx=>(hG.nest x hx).1.same fun a ha=>kp a ((hG.nest x hx).2 a ha)⟩,zbo ((hbW.mono hB).trans hG.old) (by omega) _⟩
structure MixX where
 m:MixD
 q:Option Addr
 c:Nat
 p1:Option Addr
 c1:Nat
 p2:Option Addr
 c2:Nat
 p3:Option Addr
 c3:Nat
 xs:List NatL
 ys:List NatL
def mixC (x:MixX):List Value:=exC x.m.base x.q x.c++[.slice x.p1 x.m.rs.length x.c1,.slice x.p2 x.xs.length x.c2,.slice x.p3 x.ys.length x.c3]
theorem zmN (x:MixX):(mixC x).length=336:=by
 unfold mixC
 rw [List.length_append,zav];rfl
theorem zi5 (x:MixX):(mixC x).all Value.oneCell'=true:=by
 unfold mixC
 rw [List.all_append,zdj];rfl
def mixE:Enc MixX:=⟨mixC,336,zmN,by decide,fun a u hu=>List.all_eq_true.1 (zi5 a) u hu⟩
structure NInM (B:Nat) (F:Nat→Prop) (Y:World) (x:MixX):Prop where
 e2:x.xs.map (·.1)=x.m.rs.map (·.2)
 e3:x.ys.map (·.1)=x.m.wr
 ev:RowIn evE 54 B F Y x.q x.c x.m.base.ev
 r1:RowIn natE 3 B F Y x.p1 x.c1 (x.m.rs.map (·.1))
 r2:RowIn zbs 108 B F Y x.p2 x.c2 x.xs
 n2:∀ y∈x.xs,RowIn natE 3 B F Y y.2.1 y.2.2 y.1
 r3:RowIn zbs 108 B F Y x.p3 x.c3 x.ys
 n3:∀ y∈x.ys,RowIn natE 3 B F Y y.2.1 y.2.2 y.1
theorem NInM.same {B:Nat} {F G:Nat→Prop} {Y Z:World} {x:MixX} (h:NInM B F Y x) (k:∀ {α:Type} {E:Enc α} {T c:Nat} {q:Option Addr} {l:List α},T≠119→T≠113→T≠4→RowIn E T B F Y q c l→RowIn E T B G Z q c l):NInM B G Z x :=
 ⟨h.e2,h.e3,k (by decide) (by decide) (by decide) h.ev,k (by decide) (by decide) (by decide) h.r1,k (by decide) (by decide) (by decide) h.r2,fun y hy=>k (by decide) (by decide) (by decide) (h.n2 y hy),k (by decide) (by decide) (by decide) h.r3,fun y hy=>k (by decide) (by decide) (by decide) (h.n3 y hy)⟩
theorem NInM.lower {B B':Nat} {F:Nat→Prop} {Y:World} {x:MixX} (h:NInM B F Y x) (hB:B'≤B):NInM B' (fun k=>B'≤k) Y x:=by
 have k:∀ {α:Type} {E:Enc α} {T c:Nat} {q:Option Addr} {l:List α},RowIn E T B F Y q c l→RowIn E T B' (fun k=>B'≤k) Y q c l:=fun {α E T c q l} hr=>⟨hr.own.lower hB,fun a ha=>(zaq (hr.own.lower hB) ha).1⟩
 exact⟨h.e2,h.e3,k h.ev,k h.r1,k h.r2,fun y hy=>k (h.n2 y hy),k h.r3,fun y hy=>k (h.n3 y hy)⟩
theorem zhs (B:Nat):zkf 119 113 (NInM B):=by
 rintro F G Y Z x h hs hg
 refine h.same fun {α E T c q l} t1 t2 _ hr=>⟨hr.own.same fun a ha=>?_,fun a ha=>hg _ (hr.inF a ha)⟩
 obtain⟨_,_,cur,hc⟩:=zaq hr.own ha
 exact hs _ cur _ (hr.inF a ha) hc t1 t2
abbrev TpR:=List PthR×Option Addr×Nat
def tpE:Enc TpR where
 sz:=1
 enc x:=[.slice x.2.1 x.1.length x.2.2]
 len x:=rfl
 one x v hv:=by
  simp at hv
  subst hv
  rfl
 pos:=by decide
structure MxS (B:Nat) (Z:World) (L bP:Nat) (ss:List Nat) (ps:Option Addr) (cs:Nat) (ts:List TpR) (pT:Option Addr) (cT:Nat):Prop where
 f0:Z.heap[L]?=some (.cells #[.pointer (some ⟨bP,0,none⟩)] 116 (0,0))
 f1:Z.heap[L+1]?=some (.cells #[.slice none 0 0] 113 (0,0))
 f2:Z.heap[L+2]?=some (.cells #[.bool false] 4 (0,0))
 f3:Z.heap[L+3]?=some (.cells #[.slice pT ts.length cT] 159 (0,0))
 own:OwnS natE 3 B Z ps cs ss
 rk:OwnS tpE 160 B Z pT cT ts
 n1:∀ z∈ts,OwnS pthE 168 B Z z.2.1 z.2.2 z.1
 n2:∀ z∈ts,∀ x∈z.1,PthO B Z x
theorem PthO.same {B:Nat} {Y Z:World} {x:PthR} (h:PthO B Y x) (k:∀ {α:Type} {E:Enc α} {T c:Nat} {q:Option Addr} {l:List α},T=54∨T=238→OwnS E T B Y q c l→OwnS E T B Z q c l):PthO B Z x :=
 ⟨k (.inl rfl) h.1,k (.inr rfl) h.2.1,k (.inr rfl) h.2.2.1,k (.inr rfl) h.2.2.2⟩
theorem MxS.below {B:Nat} {Z Y:World} {L bP:Nat} {ss:List Nat} {ps:Option Addr} {cs:Nat} {ts:List TpR} {pT:Option Addr} {cT:Nat} (h:MxS B Z L bP ss ps cs ts pT cT) (hb:Below Z.heap.size Z Y):MxS B Y L bP ss ps cs ts pT cT :=
 ⟨zab hb h.f0,zab hb h.f1,zab hb h.f2,zab hb h.f3,h.own.below hb,h.rk.below hb,fun z hz=>(h.n1 z hz).below hb,fun z hz x hx=>(h.n2 z hz x hx).same fun {α E T c q l} _ ho=>ho.below hb⟩
theorem MxS.size {B:Nat} {Z Y:World} {L bP n:Nat} {ss:List Nat} {ps ps':Option Addr} {cs cs':Nat} {ts:List TpR} {pT:Option Addr} {cT:Nat} (h:MxS B Z L bP ss ps cs ts pT cT) (ho:OwnS natE 3 B Y ps' cs' (ss++[n])) (g:Z.grownBy Y (ps.map Addr.block)):MxS B Y L bP (ss++[n]) ps' cs' ts pT cT :=
 ⟨zaL h.f0 h.own (by decide) g,zaL h.f1 h.own (by decide) g,zaL h.f2 h.own (by decide) g,zaL h.f3 h.own (by decide) g,ho,zbJ h.rk h.own (by decide) g,fun z hz=>zbJ (h.n1 z hz) h.own (by decide) g,fun z hz x hx=>(h.n2 z hz x hx).same fun {α E T c q l} ht hoo=>zbJ hoo h.own (by rcases ht with rfl | rfl <;> decide) g⟩
theorem appT {B c:Nat} {V1:World} {p:Option Addr} {l:List TpR} {y:TpR} {a:Addr} (ho:OwnS tpE 160 B V1 p c l) (ha:zau V1 a ([y].flatMap tpE.enc)) (hB:B≤V1.heap.size) (hl:l.length≤100000) {K:Value→World→Prop}
  (h:∀ p' c' w',OwnS tpE 160 B w' p' c' (l++[y])→V1.grownBy w' (p.map Addr.block)→(∀ a,p'=some a→p=some a∨a.block=V1.heap.size)→K (.slice p' (l++[y]).length c') w') :
  SatR ((Builtin.append_ #[159,159] 159 #[.slice p l.length c,.slice (some a) 1 1]).run Tryz.prog V1) K :=
 zbt (E:=tpE) (T:=160) (B:=B) (l:=l) (news:=[y]) (cap:=c) (m:=1) Tryz.underlying159 (ttOk.get 160 _ rfl) rfl rfl rfl ho rfl ha hB (by omega) (by show (l.length+1)*24≤_;omega) fun p' c' w' a1 a2 _ a4=>h p' c' w' a1 (by rw [zcq] at a2;exact a2) a4
theorem appP {B c:Nat} {V1:World} {p:Option Addr} {l:List PthR} {y:PthR} {a:Addr} (ho:OwnS pthE 168 B V1 p c l) (ha:zau V1 a ([y].flatMap pthE.enc)) (hB:B≤V1.heap.size) (hl:l.length≤100000) {K:Value→World→Prop}
  (h:∀ p' c' w',OwnS pthE 168 B w' p' c' (l++[y])→V1.grownBy w' (p.map Addr.block)→(∀ a,p'=some a→p=some a∨a.block=V1.heap.size)→K (.slice p' (l++[y]).length c') w') :
  SatR ((Builtin.append_ #[160,160] 160 #[.slice p l.length c,.slice (some a) 1 1]).run Tryz.prog V1) K :=
 zbt (E:=pthE) (T:=168) (B:=B) (l:=l) (news:=[y]) (cap:=c) (m:=1) Tryz.underlying160 (ttOk.get 168 _ rfl) rfl rfl rfl ho rfl ha hB (by omega) (by show (l.length+1)*104≤_;omega) fun p' c' w' a1 a2 _ a4=>h p' c' w' a1 (by rw [zcq] at a2;exact a2) a4
structure ThrQ (V:List UInt8) (l:List InsD):Prop where
 l12:l.length≤12
 ex:∀ x∈l,ExOk x
 ok:zbx l 6=true
 m:(zct l (ded V)).length≤4096
abbrev zay (V:List UInt8) (l:List InsD):List PathD:=(zct l (ded V)).map zen
def wrE (R:RunD) (i:Nat) (v:UInt8):Bool:=(List.range i).any fun j=>decide ((R.ev j).k=2)&&decide ((R.ev j).v=v)
def wrL (rs:List RunD) (v:UInt8):Bool:=rs.any fun R=>wrE R R.many v
theorem zjC (rs:List RunD):zbR rs=zaK.filter (wrL rs):=rfl
def wrC (f:UInt8→Bool):List Value:=seg 256 fun i => .bool (f (UInt8.ofNat i))
theorem zkq (f:UInt8→Bool) {i:Nat} (h:i<256):(wrC f)[i]?=some (.bool (f (UInt8.ofNat i))):=zdf _ h
theorem znA (f:UInt8→Bool) (x:UInt8):(wrC f).set x.toNat (.bool true)=wrC fun v=>f v||decide (x=v):=by
 have hx:=x.toNat_lt
 apply List.ext_getElem?
 intro j
 by_cases hj:j<256
 ·rw [zkq _ hj]
  by_cases e:x.toNat=j
  ·subst e
   rw [List.getElem?_set_self (by unfold wrC;rw [zas];exact hx),UInt8.ofNat_toNat,decide_eq_true rfl,Bool.or_true]
  ·rw [List.getElem?_set_ne e,zkq _ hj]
   have:x≠UInt8.ofNat j:=fun h=>e (by rw [h,UInt8.toNat_ofNat'];omega)
   rw [decide_eq_false this,Bool.or_false]
 ·rw [List.getElem?_eq_none (by unfold wrC;rw [List.length_set,zas];omega),List.getElem?_eq_none (by unfold wrC;rw [zas];omega)]
theorem zkp (f:UInt8→Bool):(wrC f).length=256:=zas _ _
theorem zmj (rs:List RunD) (R:RunD) (v:UInt8):wrL (rs++[R]) v=(wrL rs v||wrE R R.many v):=by
 unfold wrL
 rw [List.any_append];simp
theorem zmk (R:RunD) (i:Nat) (v:UInt8):wrE R (i+1) v=(wrE R i v||(decide ((R.ev i).k=2)&&decide ((R.ev i).v=v))):=by
 unfold wrE
 rw [List.range_succ,List.any_append];simp
theorem zj4 (p:UInt8→Bool) (x:UInt8):[x].filter p=if p x=true then [x] else []:=by
 rw [List.filter_cons,List.filter_nil]
theorem zm2 {k:Nat} (h:k<256):∃ hl:k<zaK.length,zaK[k]=UInt8.ofNat k:=by
 have hl:zaK.length=256:=by unfold zaK;rw [List.length_map,List.length_range]
 refine⟨by rw [hl];exact h,?_⟩
 simp [zaK]
theorem ztwr:List.replicate 256 (Value.bool false)=wrC fun _=>false:=by kernel_rfl
section
variable {l:List InsD} {dom:List UInt8} {q p:Option Addr} {cap cd:Nat} {w:World}
theorem zmi (hl:SlR insE w q l) (hp:SlR zaG w p dom) (h12:l.length≤12) (hx:∀ x∈l,ExOk x) (hR:∀ R∈zct l dom,R.many≤24) (hm:(zct l dom).length≤4096) (hqb:∀ a,q=some a→a.block<w.heap.size) (hpb:∀ a,p=some a→a.block<w.heap.size) (hdl:dom.length≤1000) :
  Calls Tryz.prog 113 #[.slice q l.length cap,.slice p dom.length cd] w fun e w'=>(∃ (p':Option Addr) (c':Nat),e = .returned (.tuple #[.slice p' (zbR (zct l dom)).length c',.bool true])∧OwnS zaG 5 w.heap.size w' p' c' (zbR (zct l dom)))∧Below w.heap.size w w':=by
 refine zal (S:=sg 55) (sgOk _) (args:=[.slice q l.length cap,.slice p dom.length cd]) (.c .p (.c .p (.c .p (.c .p (.s .p (.c .p .p)))))) Tryz.func113 rfl rfl (Nat.le_of_ble_eq_true rfl) rfl ?_
 obtain⟨L,hL⟩:=nm (w.heap.size)
 refine⟨Unit,fun _=>⟨[(0,.slice q l.length cap),(1,.slice p dom.length cd),(4,AtR L),(5,AtR (L+1))],[]⟩,fun _ X=>X.heap[L]?=some (.cells #[.slice none 0 0] 65 (0,0))∧X.heap[L+1]?=some (.cells #[.bool false] 4 (0,0))∧X.heap.size=L+2∧Below w.heap.size w X,?_,?_⟩
 ·have s1:=World.size_alloc w (.cells #[.slice none 0 0] 65)
  have h2:=hnew (w.alloc (.cells #[.slice none 0 0] 65)) (.cells #[.bool false] 4)
  have s2:=World.size_alloc (w.alloc (.cells #[.slice none 0 0] 65)) (.cells #[.bool false] 4)
  rw [s1] at h2 s2
  refine⟨(),⟨.cons rfl (.cons rfl (.cons (by rw [hL];rfl) (.cons (by rw [hL,← s1];rfl) .nil))),rfl⟩,?_,?_,?_,?_⟩
  ·rw [hL];exact hold _ (hnew w _)
  ·rw [hL];exact h2
  ·rw [hL];exact s2
  ·exact ((Below.refl _ w).alloc (Nat.le_refl _) _).alloc (by simp) _
 rintro _ X ⟨f0,f1,sX,hbX⟩
 refine⟨Unit,fun _=>⟨[(0,.slice q l.length cap),(1,.slice p dom.length cd),(4,AtR L),(5,AtR (L+1)),(6,AtR (L+2))],[]⟩,fun _ Y=>Y.heap[L+2]?=some (.cells (wrC fun _=>false).toArray 193 (0,0))∧Y.heap.size=L+3∧Below X.heap.size X Y,?_,?_⟩
 ·refine⟨(),⟨.cons rfl (.cons rfl (.cons rfl (.cons rfl (.cons (by rw [← sX];rfl) .nil)))),rfl⟩,?_,?_,?_⟩
  ·rw [← sX,← ztwr];exact hnew X _
  ·have:=World.size_alloc X (.cells (List.replicate 256 (Value.bool false)).toArray 193)
   rw [sX] at this;exact this
  ·exact (Below.refl _ X).alloc (Nat.le_refl _) _
 rintro _ Y ⟨f2,sY,hbY⟩
 refine⟨Unit,fun _=>⟨[(0,.slice q l.length cap),(1,.slice p dom.length cd),(4,AtR L),(5,AtR (L+1)),(6,AtR (L+2)),(7,AtR (L+3))],[]⟩,fun _ Z=>Z.heap[L+3]?=some (.cells [i64 (0:Nat)].toArray 3 (0,0))∧Z.heap.size=L+4∧Below Y.heap.size Y Z,?_,?_⟩
 ·refine zap (X:=Y) (v:=i64 0) (ttOk.get 3 _ rfl) rfl rfl rfl fun Z hbZ fZ sZ=>?_
  rw [sY] at fZ sZ
  exact⟨(),⟨.cons rfl (.cons rfl (.cons rfl (.cons rfl (.cons rfl (.cons (by rw [← sY];rfl) .nil))))),rfl⟩,fZ,sZ,hbZ⟩
 rintro _ V ⟨f3,sV,hbV⟩
 have hXV:Below X.heap.size X V:=hbY.trans (hbV.mono hbY.size)
 have hwV:=hbX.trans (hXV.mono hbX.size)
 have f0:=zab hXV f0
 have f1:=zab hXV f1
 have f2:=zab hbV f2
 clear hbX hbY hbV hXV
 obtain⟨xs,hxs⟩:=nm (zct l dom)
 rw [← hxs] at hR hm ⊢
 refine⟨Nat,fun D1=>⟨[(4,AtR L),(5,AtR (L+1)),(6,AtR (L+2))],[{ target := .collected D1,args := #[] }]⟩,fun D1 U=>U.heap[L+2]?=some (.cells (wrC (wrL xs)).toArray 193 (0,0))∧U.heap[D1]?=some (.deferred (some []))∧L+2<D1∧Below (L+2) V U,?_,?_⟩
 ·refine Calls.mono zir ?_
  rintro e W ⟨rfl,fi,fd,sW,hbW⟩
  have hwW:=hwV.trans (hbW.mono hwV.size)
  have hI:=zlC (q:=q) (p:=p) (hl.below hwW) (hp.below hwW) fi fd (fun a ha=>by have:=hqb a ha;have:=hwW.size;omega) (fun a ha=>by have:=hpb a ha;have:=hwW.size;omega) h12 hx hdl
  rw [← hxs] at hI
  obtain⟨J,hJ⟩:∃ J:List RunD→World→Prop,J=fun pre Y=>W.heap.size≤Y.heap.size∧Y.heap[L+2]?=some (.cells (wrC (wrL pre)).toArray 193 (0,0))∧Y.heap[L+3]?=some (.cells [i64 pre.length].toArray 3 (0,0))∧Below (L+2) W Y:=⟨_,rfl⟩
  obtain⟨F0,hF0⟩:∃ F0:Nat→Prop,F0=fun k=>k=L+2∨k=L+3:=⟨_,rfl⟩
  refine zeD (sgOk _) rfl (lb := #[AtR V.heap.size,AtR (V.heap.size+1)]) rfl rfl hI (Nat.le_refl _) (fun k hk=>⟨?_,rfl⟩) (fun pre vs W ⟨R,b,_,h,_⟩=>by rw [h];rfl) (by decide)
   F0 (fun pre F Y=>F=F0∧J pre Y) (fun _ _ _ _=>False) (fun k hk=>?_)
   (joG (F:=F0) (J:=J) (fun k h=>by rw [hF0] at h;omega) (fun s A h=>by rw [hJ] at h;exact h.1) (fun pre A B h hb=>by
    rw [hJ] at h ⊢
    obtain⟨h1,h2,h3,h4⟩:=h
    exact⟨Nat.le_trans h1 hb.size,zbL hb (by omega) h2,zbL hb (by omega) h3,h4.trans (hb.mono (by omega))⟩))
   (fun ex=>⟨fun _ _ _ _ h=>h.elim,fun _ _ _ _ h=>h.elim⟩) ⟨rfl,by rw [hJ];exact⟨Nat.le_refl _,zab hbW f2,zab hbW f3,Below.refl _ _⟩⟩ ?_ ?_ ?_
  ·rcases hk with ((rfl | rfl) | ⟨a,ha,rfl⟩ | ⟨a,ha,rfl⟩) | h
   ·omega
   ·omega
   ·have:=hqb a ha;have:=hwW.size;omega
   ·have:=hpb a ha;have:=hwW.size;omega
   ·exact h.elim
  ·rw [hF0]
   rcases hk with (rfl | rfl) | ⟨a,ha,rfl⟩ | ⟨a,ha,rfl⟩
   ·omega
   ·omega
   ·have:=hqb a ha;omega
   ·have:=hpb a ha;omega
  ·rintro yl pre x vs F Y hyl hpre hJ0 ⟨R,b,hlast,rfl,fR⟩ hfy ⟨lo,hlo⟩
   have hxR:x=R:=by simpa using hlast
   subst hxR
   refine⟨rfl,F,KeepsG.refl _ _,hJ0,?_⟩
   rintro o Y2 hY2 ⟨rfl,hJ2⟩
   rw [hJ] at hJ2
   obtain⟨h1,h2,h3,h4⟩:=hJ2
   have hbl:b≠yl:=fun e=>by
    rw [e] at fR
    rw [fR] at hlo
    cases hlo
   have fR2:RunH Y2 b x:=by rw [hY2];exact (zai hbl).trans fR
   have r1:=hR x (hpre.subset (by simp))
   have hpl:pre.length<xs.length:=by
    obtain⟨t,ht⟩:=hpre
    rw [← ht]
    simp only [List.length_append,List.length_cons]
    omega
   refine⟨_,zac (zaa h3) (i:=0) rfl,?_⟩
   refine brN (decide_eq_false (by omega)) ?_
   refine⟨_,zac (zaa h3) (i:=0) rfl,?_⟩
   refine⟨((pre.length+1:Nat):Int),(zad (by omega)).trans (by omega),?_⟩
   refine zan (ttOk.get 3 _ rfl) h3 (o:=0) (v:=i64 (pre.length+1:Nat)) rfl rfl (by show 0<1;decide) rfl fun Z fZ gZ sZ=>?_
   have fRZ:RunH Z b x:=(gZ.block b (hlt fR2) (fun e=>by
    have e:b=L+3:=by simpa using e
    rw [e] at fR2
    rw [fR2] at h3
    simp at h3)).trans fR2
   have f2Z:=(gZ.block (L+2) (hlt h2) (by simp)).trans h2
   have kZ:KeepsG F F Y2 Z:=KeepsG.grown gZ (by rw [hF0];exact .inr rfl)
   have bZ:Below (L+2) W Z:=h4.trans (zam gZ (by omega) (by omega))
   refine DrawE.ord [] [0,1,2,3,4,5,6,7,8,9] (by kernel_rfl) ?_
   have hdZ:Below Z.heap.size Z Z.drew:=(Below.refl _ _).drew
   refine⟨_,zac (zaa (hdr fRZ)) (i:=18) (zcR x),?_⟩
   refine⟨x.many,rfl,r1,?_⟩
   have ecut:zbg (some ⟨b,0+19,none⟩) 24 0 7=some ⟨b,19,none⟩:=by rw [zdn,Nat.zero_add]
   refine⟨Nat,fun i=>⟨[(6,AtR (L+2)),(7,AtR (L+3)),(29,.slice (some ⟨b,19,none⟩) (x.many-0) (24-0)),(30,i64 (x.many:Nat)),(31,i64 (i:Nat))],[]⟩,
    fun i T=>i≤x.many∧T.heap[L+2]?=some (.cells (wrC fun v=>wrL pre v||wrE x i v).toArray 193 (0,0))∧RunH T b x∧T.heap[L+3]?=some (.cells [i64 (pre.length+1:Nat)].toArray 3 (0,0))∧KeepsG F F Y2 T∧Below (L+2) W T,fun i=>x.many-i,0,
    ⟨.cons rfl (.cons rfl (.cons (by rw [← ecut];rfl) (.cons rfl (.cons rfl .nil)))),rfl⟩,⟨Nat.zero_le _,?_,hdr fRZ,hdr fZ,kZ.trans (KeepsG.below hdZ fun k h => .inl h),bZ.drew⟩,?_⟩
   ·have e:(fun v=>wrL pre v||wrE x 0 v)=wrL pre:=by
     funext v
     show (wrL pre v||false)=_
     rw [Bool.or_false]
    rw [e]
    exact f2Z
   rintro i T ⟨hi,t2,tR,t3,kT,bT⟩
   have hTs:=kT.size
   refine biE (fun hc=>?_) fun hc=>?_
   ·have hc:(i:Int)<(x.many:Int):=of_decide_eq_true hc
    have him:i<x.many:=by omega
    refine⟨i,rfl,him,?_⟩
    have hev:zau T ⟨b,19+i*7,none⟩ (evE.enc (x.ev i)):=by
     have:=zaw (n:=i*7) (m:=7) (zkM tR)
     rw [zns x.ev (show i<24 by omega)] at this
     exact this
    refine⟨evE.enc (x.ev i),rfl,hev,hlt tR,?_⟩
    refine zap (X:=T) (v := .agg (evE.enc (x.ev i)).toArray) (ttOk.get 54 _ rfl) rfl rfl rfl fun T2 hb2 fT2 sT2=>?_
    have k2:KeepsG F F Y2 T2:=kT.trans (KeepsG.below hb2 fun k h => .inl h)
    have b2:Below (L+2) W T2:=bT.trans (hb2.mono (by omega))
    have n1:=zmk x i
    refine⟨_,zac (zaa fT2) (i:=1) rfl,?_⟩
    have u2:=zab hb2 t2
    have uR:=zab hb2 tR
    have u3:=zab hb2 t3
    refine biE (fun hk=>?_) fun hk=>?_
    ·have hk:(x.ev i).k=2:=zbw.1 (of_decide_eq_true hk)
     refine⟨_,zac (zaa fT2) (i:=3) rfl,?_⟩
     refine⟨((x.ev i).v).toNat,rfl,((x.ev i).v).toNat_lt,?_⟩
     refine zan (ttOk.get 4 _ rfl) u2 (o:=0+((x.ev i).v).toNat*1) (v := .bool true) rfl rfl (by rw [zkp];have:=((x.ev i).v).toNat_lt;omega) rfl fun T3 fT3 gT3 sT3=>?_
     rw [Nat.zero_add,Nat.mul_one,znA] at fT3
     have k3:KeepsG F F Y2 T3:=k2.trans (KeepsG.grown gT3 (by rw [hF0];exact .inl rfl))
     have hT2s:=k2.size
     refine⟨((i+1:Nat):Int),(zad (by omega)).trans (by omega),?_⟩
     refine⟨i+1,(cvE rfl rfl),⟨him,?_,(gT3.block b (hlt uR) (fun e=>by
      have e:b=L+2:=by simpa using e
      rw [e] at uR
      rw [uR] at u2
      simp at u2)).trans uR,(gT3.block (L+3) (hlt u3) (by simp)).trans u3,k3,b2.trans (zam gT3 (by omega) (Nat.le_refl _))⟩,by show x.many-(i+1)<x.many-i;omega⟩
     have e:(fun v=>wrL pre v||wrE x (i+1) v)=fun v=>(wrL pre v||wrE x i v)||decide ((x.ev i).v=v):=by
      funext v
      rw [n1,decide_eq_true hk,Bool.true_and,Bool.or_assoc]
     rw [e]
     exact fT3
    ·have hk:¬ (x.ev i).k=2:=fun e=>(of_decide_eq_false hk) (by rw [e];rfl)
     refine⟨((i+1:Nat):Int),(zad (by omega)).trans (by omega),?_⟩
     refine⟨i+1,(cvE rfl rfl),⟨him,?_,uR,u3,k2,b2⟩,by show x.many-(i+1)<x.many-i;omega⟩
     have e:(fun v=>wrL pre v||wrE x (i+1) v)=fun v=>(wrL pre v||wrE x i v):=by
      funext v
      rw [n1,decide_eq_false hk,Bool.false_and,Bool.or_false]
     rw [e]
     exact u2
   ·have hc:¬ (i:Int)<(x.many:Int):=of_decide_eq_false hc
    obtain rfl:i=x.many:=by omega
    refine⟨F,⟨rfl,?_⟩,kT⟩
    rw [hJ]
    refine⟨by omega,?_,by rw [List.length_append];exact t3,bT⟩
    have e:wrL (pre++[x])=fun v=>wrL pre v||wrE x x.many v:=by
     funext v
     exact zmj pre x v
    rw [e]
    exact t2
  ·rintro D1 F Y hD hfD ⟨rfl,hj⟩ hdef
   rw [hJ] at hj
   obtain⟨h1,h2,h3,h4⟩:=hj
   exact⟨D1,(cvE rfl rfl),h2,hdef,by omega,(hbW.mono (by omega)).trans h4⟩
  ·rintro D ex pre F Y hD hfD hpre h
   exact h.elim
 clear f2 f3
 rintro D1 U ⟨f2,fD1,hLD,bU⟩
 have f0:U.heap[L]?=some (.cells #[.slice none 0 0] 65 (0,0)):=(bU.block L (by omega)).trans f0
 have f1:U.heap[L+1]?=some (.cells #[.bool false] 4 (0,0)):=(bU.block (L+1) (by omega)).trans f1
 have hwU:Below w.heap.size w U:=hwV.trans (bU.mono (by omega))
 have sU:=hlt f2
 have sD:=hlt fD1
 clear bU hwV
 refine⟨List UInt8×Option Addr×Nat,fun s=>⟨[(4,AtR L),(5,AtR (L+1)),(11,.slice s.2.1 s.1.length s.2.2)],[{ target := .collected D1,args := #[] }]⟩,fun s Z=>s.1=zbR xs∧OwnS zaG 5 U.heap.size Z s.2.1 s.2.2 s.1∧Below U.heap.size U Z,?_,?_⟩
 ·refine⟨wrC (wrL xs),zkp _,zaa f2,hlt f2,?_⟩
  refine⟨Nat×Option Addr×Nat,fun s=>⟨[(4,AtR L),(5,AtR (L+1)),(11,.slice s.2.1 ((zaK.take s.1).filter (wrL xs)).length s.2.2),(42,.agg (wrC (wrL xs)).toArray),(43,i64 (s.1:Nat))],[{ target := .collected D1,args := #[] }]⟩,
   fun s Z=>s.1≤256∧OwnS zaG 5 U.heap.size Z s.2.1 s.2.2 ((zaK.take s.1).filter (wrL xs))∧Below U.heap.size U Z,fun s=>256-s.1,(0,none,0),
   (cvE rfl rfl),⟨Nat.zero_le _,OwnS.nil,Below.refl _ _⟩,?_⟩
  rintro⟨k,r,c⟩ Z ⟨hk,ho,hbZ⟩
  dsimp only at hk ho ⊢
  have hZs:=hbZ.size
  refine biE (fun hc=>?_) fun hc=>?_
  ·have hc:(k:Int)<256:=of_decide_eq_true hc
   have hk2:k<256:=by omega
   have tk:zaK.take (k+1)=zaK.take k++[UInt8.ofNat k]:=by
    obtain⟨hlb,hbk⟩:=zm2 hk2
    rw [List.take_succ_eq_append_getElem hlb,hbk]
   have fl:(zaK.take (k+1)).filter (wrL xs)=(zaK.take k).filter (wrL xs)++(if wrL xs (UInt8.ofNat k)=true then [UInt8.ofNat k] else []):=by
    rw [tk,List.filter_append,zj4]
   have hfl:((zaK.take k).filter (wrL xs)).length≤256:=by
    have h1:=List.length_filter_le (wrL xs) (zaK.take k)
    rw [List.length_take] at h1
    omega
   refine⟨k,rfl,hk2,?_⟩
   refine zd0 (by rw [Nat.mul_one];exact zkq _ hk2) ?_
   refine biE (fun hv=>?_) fun hv=>?_
   ·rw [if_pos hv] at fl
    refine⟨_,w8N k,?_⟩
    refine⟨⟨by decide,by decide,rfl⟩,zaG.enc (UInt8.ofNat k),rfl,?_⟩
    have hba:Below Z.heap.size Z (Z.alloc (.cells (zaG.enc (UInt8.ofNat k)).toArray 5)):=(Below.refl _ _).alloc (Nat.le_refl _) _
    refine zbt (E:=zaG) (T:=5) (B:=U.heap.size) (l:=(zaK.take k).filter (wrL xs)) (news:=[UInt8.ofNat k]) (cap:=c) (m:=1) Tryz.underlying65 (ttOk.get 5 _ rfl) rfl rfl rfl (ho.below hba) rfl (zbd zaG (UInt8.ofNat k)) (by have:=hba.size;omega) (by omega) (by show (((zaK.take k).filter (wrL xs)).length+1)*1≤_;omega) ?_
    intro p2 c2 T oT gT hbT hat
    refine⟨((k+1:Nat):Int),(zad (by omega)).trans (by omega),?_⟩
    refine⟨(k+1,p2,c2),⟨.cons rfl (.cons rfl (.cons (by rw [fl];rfl) (.cons rfl (.cons rfl .nil)))),rfl⟩,⟨hk2,by show OwnS zaG _ _ _ _ _ ((zaK.take (k+1)).filter (wrL xs));rw [fl];exact oT,(hbZ.trans (hba.mono hZs)).trans hbT⟩,by show 256-(k+1)<256-k;omega⟩
   ·have hv:wrL xs (UInt8.ofNat k)=false:=hv
    rw [hv,if_neg Bool.false_ne_true,List.append_nil] at fl
    refine⟨((k+1:Nat):Int),(zad (by omega)).trans (by omega),?_⟩
    exact⟨(k+1,r,c),⟨.cons rfl (.cons rfl (.cons (by rw [fl];rfl) (.cons rfl (.cons rfl .nil)))),rfl⟩,⟨hk2,by show OwnS zaG _ _ _ _ _ ((zaK.take (k+1)).filter (wrL xs));rw [fl];exact ho,hbZ⟩,by show 256-(k+1)<256-k;omega⟩
  ·have hc:¬ (k:Int)<256:=of_decide_eq_false hc
   obtain rfl:k=256:=by omega
   have e:(zaK.take 256).filter (wrL xs)=zbR xs:=by
    rw [zjC,List.take_of_length_le (by unfold zaK;rw [List.length_map,List.length_range];exact Nat.le_refl _)]
   rw [e] at ho
   exact⟨(zbR xs,r,c),⟨.cons rfl (.cons rfl (.cons (by rw [e];rfl) .nil)),rfl⟩,rfl,ho,hbZ⟩
 rintro⟨ys,r,c⟩ Z ⟨rfl,ho,hbZ⟩
 dsimp only at ho ⊢
 have hZs:=hbZ.size
 have g0:=zab hbZ f0
 have g1:=zab hbZ f1
 have gD:=zab hbZ fD1
 refine zan (ttOk.get 65 _ rfl) g0 (o:=0) (v := .slice r (zbR xs).length c) rfl rfl (by show 0<1;decide) rfl fun Z1 fZ1 gZ1 sZ1=>?_
 have g1':=(gZ1.block (L+1) (hlt g1) (by simp)).trans g1
 refine zan (ttOk.get 4 _ rfl) g1' (o:=0) (v := .bool true) rfl rfl (by show 0<1;decide) rfl fun Z2 fZ2 gZ2 sZ2=>?_
 have k2:∀ k,k<Z.heap.size→k≠L→k≠L+1→Z2.heap[k]?=Z.heap[k]?:=fun k hk n1 n2=>(gZ2.block k (by rw [sZ1];exact hk) (by simpa using n2)).trans (gZ1.block k hk (by simpa using n1))
 have fZ1':=(gZ2.block L (hlt fZ1) (by simp)).trans fZ1
 refine⟨_,rfl,(k2 D1 (hlt gD) (by omega) (by omega)).trans gD,?_⟩
 refine⟨.slice r (zbR xs).length c,?_,.bool true,?_,⟨r,c,rfl,?_⟩,?_⟩
 ·exact zac (zaa ((zai (by omega)).trans fZ1')) (i:=0) rfl
 ·exact zac (zaa ((zai (by omega)).trans fZ2)) (i:=0) rfl
 ·refine OwnS.lower (ho.same fun a ha=>?_) hwU.size
  have h:=zcx ho ha
  exact (zai (by omega)).trans (k2 _ h.2.1 (by omega) (by omega))
 ·have hwZ:=hwU.trans (hbZ.mono hwU.size)
  exact zbo ((hwZ.trans (zam gZ1 hwZ.size (by omega))).trans (zam gZ2 (by rw [sZ1];exact hwZ.size) (by omega))) (by omega) _
end
theorem zep {a b:Nat}:decide ((a:Int)<(b:Int))=decide (a<b):=by rw [decide_eq_decide];omega
def zbO (c:Cnd):Bool:=decide (c.thread=0)&&(decide (c.n=0)&&decide (c.val=0))
theorem zbY {threads locs d:Nat} (c:Cnd):zcu threads locs (d+1) c=(if c.kind=0 then zbO c&&decide (c.kids.length=0) else
  if c.kind=1 then decide (c.thread.toNat<threads)&&(decide (c.n.toNat<8)&&decide (c.kids.length=0)) else
  if c.kind=2 then decide (c.n.toNat<locs)&&(decide (c.thread=0)&&decide (c.kids.length=0)) else
  if c.kind=3∨c.kind=4 then zbO c&&(decide (2≤c.kids.length)&&c.kids.all (zcu threads locs d)) else
  if c.kind=5 then zbO c&&(decide (c.kids.length=1)&&c.kids.all (zcu threads locs d)) else false):=by
 obtain⟨k,t,n,v,kids⟩:=c
 rfl
def zp8 (c:Cnd):Prop:=(c.kind=3∨c.kind=4)∧zbO c=true∧2≤c.kids.length∨c.kind=5∧zbO c=true∧c.kids.length=1
theorem zj6 {threads locs d:Nat} {c:Cnd} (h:zp8 c):zcu threads locs (d+1) c=c.kids.all (zcu threads locs d):=by
 rw [zbY]
 rcases h with ⟨h1,h2,h3⟩ | ⟨h1,h2,h3⟩
 ·rw [if_neg (by rcases h1 with h | h <;> rw [h] <;> decide),if_neg (by rcases h1 with h | h <;> rw [h] <;> decide),if_neg (by rcases h1 with h | h <;> rw [h] <;> decide),if_pos h1,h2,decide_eq_true h3];rfl
 ·rw [if_neg (by rw [h1];decide),if_neg (by rw [h1];decide),if_neg (by rw [h1];decide),if_neg (by rw [h1];decide),if_pos h1,h2,decide_eq_true h3];rfl
theorem ziw {B threads locs:Nat} {w:World} (hB:B≤w.heap.size):∀ (d:Nat) (c:Cnd) (b o:Nat) (p:Option Addr) (cap:Nat),d≤1000→b<B→zau w ⟨b,o,none⟩ (zcz c p cap)→KidsV B w p c.kids →
  Calls Tryz.prog 176 #[.pointer (some ⟨b,o,none⟩),i64 threads,i64 locs,i64 d] w fun e w'=>e = .returned (.bool (zcu threads locs d c))∧w=w':=by
 intro d
 induction d with
 | zero =>
  intro c b o p cap _ hb hc hk
  refine zae (S:=sg 141) (sgOk _) (args:=[.pointer (some ⟨b,o,none⟩),i64 threads,i64 locs,i64 0]) Tryz.func176 rfl rfl (Nat.le_of_ble_eq_true rfl) rfl ?_
  refine brT ?_
  exact⟨rfl,rfl⟩
 | succ d ih =>
  intro c b o p cap hd hb hc hk
  refine zal (S:=sg 141) (sgOk _) (args:=[.pointer (some ⟨b,o,none⟩),i64 threads,i64 locs,i64 (d+1:Nat)]) (.s .p (.s .p (.c .p (.c .p .p)))) Tryz.func176 rfl rfl (Nat.le_of_ble_eq_true rfl) rfl ?_
  have hbl:b<w.heap.size:=Nat.lt_of_lt_of_le hb hB
  refine biE (fun h=>?_) fun h=>?_
  ·have h:((d+1:Nat):Int)=0:=of_decide_eq_true h
   omega
  clear h
  refine⟨Unit,fun _=>⟨[(0,.pointer (some ⟨b,o,none⟩)),(1,i64 threads),(2,i64 locs),(3,i64 (d+1:Nat)),(9,.bool (zbO c))],[]⟩,fun _ X=>w=X,?_,?_⟩
  ·have fin:∀ {v:Bool},v=zbO c→some (Value.bool v)=some (.bool (zbO c)):=fun h=>by rw [h]
   refine⟨_,zac hc (i:=1) rfl,?_⟩
   refine biE (fun h1=>?_) fun h1=>?_
   ·have h1:decide (c.thread=0)=true:=(u8d c.thread 0).symm.trans h1
    refine⟨_,zac hc (i:=2) rfl,?_⟩
    refine biE (fun h2=>?_) fun h2=>?_
    ·have h2:decide (c.n=0)=true:=(u8d c.n 0).symm.trans h2
     refine⟨_,zac hc (i:=3) rfl,?_⟩
     exact⟨(),⟨.cons rfl (.cons rfl (.cons rfl (.cons rfl (.cons (fin (by unfold zbO;rw [h1,h2];exact u8d c.val 0)) .nil)))),rfl⟩,rfl⟩
    ·have h2:decide (c.n=0)=false:=(u8d c.n 0).symm.trans h2
     exact⟨(),⟨.cons rfl (.cons rfl (.cons rfl (.cons rfl (.cons (fin (by unfold zbO;rw [h1,h2];rfl)) .nil)))),rfl⟩,rfl⟩
   ·have h1:decide (c.thread=0)=false:=(u8d c.thread 0).symm.trans h1
    refine brF ?_
    exact⟨(),⟨.cons rfl (.cons rfl (.cons rfl (.cons rfl (.cons (fin (by unfold zbO;rw [h1];rfl)) .nil)))),rfl⟩,rfl⟩
  rintro _ _ rfl
  refine⟨Unit,fun _=>⟨[(0,.pointer (some ⟨b,o,none⟩)),(1,i64 threads),(2,i64 locs),(3,i64 (d+1:Nat))],[]⟩,fun _ X=>zp8 c∧w=X,?_,?_⟩
  ·have hkn:c.kids.length≤140737488351232:=by have:=hk.inv.1;omega
   refine⟨_,zac hc (i:=0) rfl,?_⟩
   refine biE (fun h0=>?_) fun h0=>?_
   ·have h0:c.kind=0:=of_decide_eq_true ((u8d c.kind 0).symm.trans h0)
    have e:zcu threads locs (d+1) c=(zbO c&&decide (c.kids.length=0)):=by rw [zbY,if_pos h0]
    rw [e]
    refine biE (fun h=>?_) fun h=>?_
    ·have h:zbO c=true:=h
     refine⟨_,zac hc (i:=4) rfl,?_⟩
     exact⟨rb (by rw [h,Bool.true_and];exact zdg),rfl⟩
    ·have h:zbO c=false:=h
     exact⟨rb (by rw [h];rfl),rfl⟩
   have h0:¬ c.kind=0:=of_decide_eq_false ((u8d c.kind 0).symm.trans h0)
   refine biE (fun h1=>?_) fun h1=>?_
   ·have h1:c.kind=1:=of_decide_eq_true ((u8d c.kind 1).symm.trans h1)
    have e:zcu threads locs (d+1) c=(decide (c.thread.toNat<threads)&&(decide (c.n.toNat<8)&&decide (c.kids.length=0))):=by rw [zbY,if_neg h0,if_pos h1]
    rw [e]
    refine⟨_,zac hc (i:=1) rfl,?_⟩
    refine⟨_,zaE _,?_⟩
    refine biE (fun h=>?_) fun h=>?_
    ·have h:decide (c.thread.toNat<threads)=true:=zep.symm.trans h
     refine⟨_,zac hc (i:=2) rfl,?_⟩
     refine biE (fun h2=>?_) fun h2=>?_
     ·have h2:decide (c.n.toNat<8)=true:=(zep (b:=8)).symm.trans h2
      refine⟨_,zac hc (i:=4) rfl,?_⟩
      exact⟨rb (by rw [h,h2];exact zdg),rfl⟩
     ·have h2:decide (c.n.toNat<8)=false:=(zep (b:=8)).symm.trans h2
      exact⟨rb (by rw [h,h2];rfl),rfl⟩
    ·have h:decide (c.thread.toNat<threads)=false:=zep.symm.trans h
     refine brF ?_
     exact⟨rb (by rw [h];rfl),rfl⟩
   have h1:¬ c.kind=1:=of_decide_eq_false ((u8d c.kind 1).symm.trans h1)
   refine biE (fun h2=>?_) fun h2=>?_
   ·have h2:c.kind=2:=of_decide_eq_true ((u8d c.kind 2).symm.trans h2)
    have e:zcu threads locs (d+1) c=(decide (c.n.toNat<locs)&&(decide (c.thread=0)&&decide (c.kids.length=0))):=by rw [zbY,if_neg h0,if_neg h1,if_pos h2]
    rw [e]
    refine⟨_,zac hc (i:=2) rfl,?_⟩
    refine⟨_,zaE _,?_⟩
    refine biE (fun h=>?_) fun h=>?_
    ·have h:decide (c.n.toNat<locs)=true:=zep.symm.trans h
     refine⟨_,zac hc (i:=1) rfl,?_⟩
     refine biE (fun h3=>?_) fun h3=>?_
     ·have h3:decide (c.thread=0)=true:=(u8d c.thread 0).symm.trans h3
      refine⟨_,zac hc (i:=4) rfl,?_⟩
      exact⟨rb (by rw [h,h3];exact zdg),rfl⟩
     ·have h3:decide (c.thread=0)=false:=(u8d c.thread 0).symm.trans h3
      exact⟨rb (by rw [h,h3];rfl),rfl⟩
    ·have h:decide (c.n.toNat<locs)=false:=zep.symm.trans h
     refine brF ?_
     exact⟨rb (by rw [h];rfl),rfl⟩
   have h2:¬ c.kind=2:=of_decide_eq_false ((u8d c.kind 2).symm.trans h2)
   have g34:∀ (hk34:c.kind=3∨c.kind=4),zcu threads locs (d+1) c=(zbO c&&(decide (2≤c.kids.length)&&c.kids.all (zcu threads locs d))):=fun hk34=>by
    rw [zbY,if_neg h0,if_neg h1,if_neg h2,if_pos hk34]
   refine biE (fun h3=>?_) fun h3=>?_
   ·have h3':decide ((c.kind.toNat:Int)=3)=true:=h3
    have h3:c.kind=3∨c.kind=4 := .inl (of_decide_eq_true ((u8d c.kind 3).symm.trans h3))
    refine brE h3' ?_
    refine biE (fun h=>?_) fun h=>?_
    ·have h:(!zbO c)=true:=h
     have h:zbO c=false:=by simpa using h
     refine brT ?_
     exact⟨rb (by rw [g34 h3,h];rfl),rfl⟩
    ·have h:(!zbO c)=false:=h
     have h:zbO c=true:=by simpa using h
     refine⟨_,zac hc (i:=4) rfl,?_⟩
     refine biE (fun h4=>?_) fun h4=>?_
     ·have h4:(c.kids.length:Int)<2:=of_decide_eq_true h4
      exact⟨rb (by rw [g34 h3,decide_eq_false (by omega)];simp),rfl⟩
     ·have h4:¬ (c.kids.length:Int)<2:=of_decide_eq_false h4
      exact⟨(),(cvE rfl rfl),.inl ⟨h3,h,by omega⟩,rfl⟩
   have h3:¬ c.kind=3:=of_decide_eq_false ((u8d c.kind 3).symm.trans h3)
   refine biE (fun h4=>?_) fun h4=>?_
   ·have h3:c.kind=3∨c.kind=4 := .inr (of_decide_eq_true ((u8d c.kind 4).symm.trans h4))
    refine biE (fun h=>?_) fun h=>?_
    ·have h:(!zbO c)=true:=h
     have h:zbO c=false:=by simpa using h
     refine brT ?_
     exact⟨rb (by rw [g34 h3,h];rfl),rfl⟩
    ·have h:(!zbO c)=false:=h
     have h:zbO c=true:=by simpa using h
     refine⟨_,zac hc (i:=4) rfl,?_⟩
     refine biE (fun h4=>?_) fun h4=>?_
     ·have h4:(c.kids.length:Int)<2:=of_decide_eq_true h4
      exact⟨rb (by rw [g34 h3,decide_eq_false (by omega)];simp),rfl⟩
     ·have h4:¬ (c.kids.length:Int)<2:=of_decide_eq_false h4
      exact⟨(),(cvE rfl rfl),.inl ⟨h3,h,by omega⟩,rfl⟩
   have h4:¬ c.kind=4:=of_decide_eq_false ((u8d c.kind 4).symm.trans h4)
   have h34:¬ (c.kind=3∨c.kind=4):=fun h=>h.elim h3 h4
   refine biE (fun h5=>?_) fun h5=>?_
   ·have h5:c.kind=5:=of_decide_eq_true ((u8d c.kind 5).symm.trans h5)
    have e:zcu threads locs (d+1) c=(zbO c&&(decide (c.kids.length=1)&&c.kids.all (zcu threads locs d))):=by rw [zbY,if_neg h0,if_neg h1,if_neg h2,if_neg h34,if_pos h5]
    refine biE (fun h=>?_) fun h=>?_
    ·have h:(!zbO c)=true:=h
     have h:zbO c=false:=by simpa using h
     refine brT ?_
     exact⟨rb (by rw [e,h];rfl),rfl⟩
    ·have h:(!zbO c)=false:=h
     have h:zbO c=true:=by simpa using h
     refine⟨_,zac hc (i:=4) rfl,?_⟩
     refine biE (fun h4=>?_) fun h4=>?_
     ·have h4:(!decide ((c.kids.length:Int)=1))=true:=h4
      have h4:¬ (c.kids.length:Int)=1:=by simpa using h4
      exact⟨rb (by rw [e,decide_eq_false (by omega)];simp),rfl⟩
     ·have h4:(!decide ((c.kids.length:Int)=1))=false:=h4
      have h4:(c.kids.length:Int)=1:=by simpa using h4
      exact⟨(),(cvE rfl rfl),.inr ⟨h5,h,by omega⟩,rfl⟩
   have h5:¬ c.kind=5:=of_decide_eq_false ((u8d c.kind 5).symm.trans h5)
   exact⟨rb (by rw [zbY,if_neg h0,if_neg h1,if_neg h2,if_neg h34,if_neg h5]),rfl⟩
  rintro _ _ ⟨ha,rfl⟩
  rw [zj6 ha]
  refine⟨_,zac hc (i:=4) rfl,?_⟩
  obtain⟨hn,b1,o1,hp,hks⟩:=hk.inv
  refine⟨Nat,fun k=>⟨[(0,.pointer (some ⟨b,o,none⟩)),(1,i64 threads),(2,i64 locs),(3,i64 (d+1:Nat)),(124,i64 c.kids.length),(125,i64 (k:Nat))],[]⟩,fun k X=>k≤c.kids.length∧(∀ x∈c.kids.take k,zcu threads locs d x=true)∧w=X,fun k=>c.kids.length-k,0,
   (cvE rfl rfl),⟨Nat.zero_le _,by simp,rfl⟩,?_⟩
  rintro k _ ⟨hk,hall,rfl⟩
  dsimp only at hk hall ⊢
  refine biE (fun hc2=>?_) fun hc2=>?_
  ·have hc2:(k:Int)<(c.kids.length:Int):=of_decide_eq_true hc2
   have hkl:k<c.kids.length:=by omega
   rcases hp with hp | rfl
   ·omega
   obtain⟨q,cq,hb1,hq,hkq⟩:=hks k hkl
   refine⟨_,zac hc (i:=4) rfl,?_⟩
   refine⟨k,rfl,hkl,?_⟩
   refine⟨(d:Int),(zad (by omega)).trans (by omega),?_⟩
   refine Calls.mono (ih c.kids[k] b1 (o1+k*5) q cq (by omega) hb1 hq hkq) ?_
   rintro e _ ⟨rfl,rfl⟩
   refine biE (fun h=>?_) fun h=>?_
   ·have h:(!zcu threads locs d c.kids[k])=true:=h
    refine⟨rb ?_,rfl⟩
    symm
    rw [List.all_eq_false]
    exact⟨c.kids[k],List.getElem_mem _,by simpa using h⟩
   ·have h:(!zcu threads locs d c.kids[k])=false:=h
    refine⟨_,(zad (by omega)).trans rfl,?_⟩
    refine⟨k+1,(cvE rfl rfl),⟨hkl,?_,rfl⟩,by show c.kids.length-(k+1)<c.kids.length-k;omega⟩
    rw [List.take_succ_eq_append_getElem hkl]
    intro x hx
    rcases List.mem_append.1 hx with hx | hx
    ·exact hall x hx
    ·simp only [List.mem_singleton] at hx
     rw [hx];simpa using h
  ·have hc2:¬ (k:Int)<(c.kids.length:Int):=of_decide_eq_false hc2
   obtain rfl:k=c.kids.length:=by omega
   rw [List.take_length] at hall
   exact⟨rb (List.all_eq_true.2 hall).symm,rfl⟩
theorem zqg {B threads locs cap:Nat} {p:Option Addr} {c:Cnd} {w:World} (hB:B≤w.heap.size) (hk:KidsV B w p c.kids) :
  Calls Tryz.prog 155 #[.agg (zcz c p cap).toArray,i64 threads,i64 locs] w fun e w'=>e = .returned (.bool (zcu threads locs 20 c))∧Below w.heap.size w w':=by
 refine zae (S:=sg 10) (sgOk _) (args:=[.agg (zcz c p cap).toArray,i64 threads,i64 locs]) Tryz.func155 rfl rfl (Nat.le_of_ble_eq_true rfl) rfl ?_
 have hb:Below w.heap.size w (w.alloc (.cells (zcz c p cap).toArray 69)):=(Below.refl _ w).alloc (Nat.le_refl _) _
 have hn:=hnew w (.cells (zcz c p cap).toArray 69)
 refine Calls.mono (ziw (B:=w.heap.size+1) (by rw [World.size_alloc];omega) 20 c w.heap.size 0 p cap (by omega) (by omega) (zaa hn) ((hk.kept (hb.mono hB)).wider (by omega))) ?_
 rintro e _ ⟨rfl,rfl⟩
 exact⟨rfl,hb⟩
theorem zie {g:Nat} {p:Prg} {p1 p2 p3 p4:Option Addr} {c1 c2 c3 c4 B:Nat} {w:World} (hc:zau w ⟨g,0,none⟩ (zaY p p1 c1 p2 c2 p3 c3 p4 c4)) (hg:g<w.heap.size) (h1:RowB namE B w p1 p.locs) (hB:B≤w.heap.size) (hcap:p.locs.length≤c1) (hl:PrgLen p) :
  Calls Tryz.prog 147 #[.pointer (some ⟨g,0,none⟩)] w fun e w'=>e = .returned (.bool (zgx p))∧Below w.heap.size w w':=by
 refine zal (S:=sg 56) (sgOk _) (args:=[.pointer (some ⟨g,0,none⟩)]) (.s .p (.c .p .p)) Tryz.func147 rfl rfl (Nat.le_of_ble_eq_true rfl) rfl ?_
 have hbd:Below w.heap.size w w.drew:=(Below.refl _ w).drew
 have hcd:zau w.drew ⟨g,0,none⟩ (zaY p p1 c1 p2 c2 p3 c3 p4 c4):=zag hbd hc
 have h1d:SlR namE w.drew p1 p.locs:=(h1.below (hbd.mono hB)).slr (Nat.le_trans hB hbd.size)
 have hln:=hl.locs
 refine⟨Unit,fun _=>⟨[(0,.pointer (some ⟨g,0,none⟩))],[]⟩,fun _ X=>(1≤p.locs.length∧p.locs.length≤6∧p.init.length=p.locs.length)∧X=w.drew,?_,?_⟩
 ·refine DrawE.ord [] [0,1,2,3,4,5,6,7,8,9,10,11,12,13,14,15,16,17,18,19,20,21,22,23,24,25,26] (by kernel_rfl) ?_
  refine⟨_,zac hcd (i:=1) rfl,?_⟩
  refine biE (fun ha=>?_) fun ha=>?_
  ·have ha:(p.locs.length:Int)<1:=of_decide_eq_true ha
   refine brT ?_
   refine brT ?_
   exact⟨rb (by unfold zgx;rw [decide_eq_false (by omega)];rfl),hbd⟩
  ·have ha:¬ (p.locs.length:Int)<1:=of_decide_eq_false ha
   refine⟨_,zac hcd (i:=1) rfl,?_⟩
   refine biE (fun hd=>?_) fun hd=>?_
   ·have hd:(6:Int)<(p.locs.length:Int):=of_decide_eq_true hd
    refine brT ?_
    exact⟨rb (by unfold zgx;rw [decide_eq_false (p:=p.locs.length≤6) (by omega)];simp),hbd⟩
   ·have hd:¬ (6:Int)<(p.locs.length:Int):=of_decide_eq_false hd
    refine⟨_,zac hcd (i:=2) rfl,?_⟩
    refine⟨_,zac hcd (i:=1) rfl,?_⟩
    refine biE (fun he=>?_) fun he=>?_
    ·have he:(!decide ((p.init.length:Int)=(p.locs.length:Int)))=true:=he
     have he:¬ (p.init.length:Int)=(p.locs.length:Int):=by simpa using he
     exact⟨rb (by unfold zgx;rw [decide_eq_false (p:=p.init.length=p.locs.length) (by omega)];simp),hbd⟩
    ·have he:(!decide ((p.init.length:Int)=(p.locs.length:Int)))=false:=he
     have he:(p.init.length:Int)=(p.locs.length:Int):=by simpa using he
     exact⟨(),(cvE rfl rfl),⟨by omega,by omega,by omega⟩,rfl⟩
 rintro _ _ ⟨⟨l1,l6,li⟩,rfl⟩
 have hdef:zgx p=zfg [] p.locs:=by unfold zgx;rw [decide_eq_true l1,decide_eq_true l6,decide_eq_true li];rfl
 rw [hdef]
 refine⟨_,zac hcd (i:=1) rfl,?_⟩
 refine⟨Nat,fun k=>⟨[(0,.pointer (some ⟨g,0,none⟩)),(35,.slice p1 p.locs.length c1),(36,i64 p.locs.length),(37,i64 (k:Nat))],[]⟩,fun k X=>k≤p.locs.length∧zfg (p.locs.take k) (p.locs.drop k)=zfg [] p.locs∧X=w.drew,fun k=>p.locs.length-k,0,
  (cvE rfl rfl),⟨Nat.zero_le _,rfl,rfl⟩,?_⟩
 rintro k _ ⟨hk,hna,rfl⟩
 dsimp only at hk hna ⊢
 refine biE (fun hc2=>?_) fun hc2=>?_
 ·have hc2:(k:Int)<(p.locs.length:Int):=of_decide_eq_true hc2
  have hkl:k<p.locs.length:=by omega
  obtain⟨b,o,rfl,hb,hat⟩:=h1d.at hkl
  have hbk:Below w.heap.size w w.drew:=hbd
  refine⟨k,rfl,hkl,?_⟩
  refine⟨_,zac (hat k hkl) (i:=0) rfl,?_⟩
  have hs:p.locs[k].length≤140737488351232:=hl.loc _ (List.getElem_mem _)
  have hstep:zfg [] p.locs=(zgs p.locs[k]&&(!((p.locs.take k).any fun q=>decide (q=p.locs[k]))&&zfg (p.locs.take (k+1)) (p.locs.drop (k+1)))):=by
   rw [← hna,List.drop_eq_getElem_cons hkl,List.take_succ_eq_append_getElem hkl];rfl
  refine Calls.mono (zqb p.locs[k] hs _) ?_
  rintro e _ ⟨rfl,rfl⟩
  refine biE (fun h=>?_) fun h=>?_
  ·have h:(!zgs p.locs[k])=true:=h
   have h:zgs p.locs[k]=false:=by simpa using h
   refine brT ?_
   exact⟨rb (by rw [hstep,h];rfl),hbd⟩
  ·have h:(!zgs p.locs[k])=false:=h
   have h:zgs p.locs[k]=true:=by simpa using h
   refine⟨_,zac hcd (i:=1) rfl,?_⟩
   refine⟨k,rfl,by omega,?_⟩
   have hsub:SlR namE w.drew (zbg (some ⟨b,o,none⟩) c1 0 1) (p.locs.take k):=SlR.sub h1d (lo:=0) (hi:=k) (Nat.zero_le _) (by omega) hcap
   have htl:(p.locs.take k).length=k:=by rw [List.length_take];omega
   have hcn:=zkh (zbg (some ⟨b,o,none⟩) c1 0 1) (c1-0) (p.locs.take k) p.locs[k] w.drew hsub (by omega)
   rw [htl] at hcn
   refine Calls.mono hcn ?_
   rintro e _ ⟨rfl,rfl⟩
   refine biE (fun h5=>?_) fun h5=>?_
   ·have h5:((p.locs.take k).any fun q=>decide (q=p.locs[k]))=true:=h5
    exact⟨rb (by rw [hstep,h5];simp),hbd⟩
   ·have h5:((p.locs.take k).any fun q=>decide (q=p.locs[k]))=false:=h5
    refine⟨_,(zad (by omega)).trans rfl,?_⟩
    exact⟨k+1,(cvE rfl rfl),⟨hkl,by rw [hstep,h,h5];rfl,rfl⟩,by show p.locs.length-(k+1)<p.locs.length-k;omega⟩
 ·have hc2:¬ (k:Int)<(p.locs.length:Int):=of_decide_eq_false hc2
  obtain rfl:k=p.locs.length:=by omega
  rw [List.drop_length] at hna
  exact⟨rb hna,hbd⟩
structure DmV (B:Nat) (X:World) (g bx:Nat) (p:Prg):Prop where
 hB:B≤X.heap.size
 hg:g<X.heap.size
 len:PrgLen p
 h:∃ p1 c1 p2 c2 p3 c3 p4 c4,zau X ⟨g,0,none⟩ (zaY p p1 c1 p2 c2 p3 c3 p4 c4)∧RowB namE B X p1 p.locs∧RowB zaG B X p2 p.init∧ThrsV B X p3 p.threads∧KidsV B X p4 p.cond.kids∧p.locs.length≤c1
 b:X.heap[bx]?=some (.cells #[.pointer (some ⟨g,0,none⟩)] 116 (0,0))
 G:GlobC X
theorem DmV.below {B:Nat} {X Y:World} {g bx:Nat} {p:Prg} (h:DmV B X g bx p) (hb:Below X.heap.size X Y):DmV B Y g bx p:=by
 obtain⟨p1,c1,p2,c2,p3,c3,p4,c4,h0,h1,h2,h3,h4,h5⟩:=h.h
 have hb':=hb.mono h.hB
 exact⟨Nat.le_trans h.hB hb.size,Nat.lt_of_lt_of_le h.hg hb.size,h.len,⟨p1,c1,p2,c2,p3,c3,p4,c4,zag hb h0,h1.below hb',h2.below hb',h3.below hb',h4.kept hb',h5⟩,zab hb h.b,h.G.below hb⟩
def zkQ (sel:Bool) (bx:Nat):Value:=match sel with
 | false => .func (.func 149) #[] #[]
 | true => .func (.func 151) #[] #[.pointer (some ⟨bx,0,none⟩)]
def zdH (sel:Bool) (p:Prg) (l:List InsD):Bool:=match sel with
 | false=>decide (l.length≤12)
 | true=>zbx l p.locs.length
section
variable {B g bx:Nat} {p:Prg} {w:World}
theorem znK (q:Option Addr) (cap:Nat) (l:List InsD):Calls Tryz.prog 149 #[.slice q l.length cap] w fun e w'=>e = .returned (.bool (decide (l.length≤12)))∧w=w':=by
 refine zae (S:=sg 6) (sgOk _) (args:=[.slice q l.length cap]) Tryz.func149 rfl rfl (Nat.le_of_ble_eq_true rfl) rfl ?_
 refine⟨rb ?_,rfl⟩
 rw [decide_eq_decide]
 show ((l.length:Int)≤12)↔_
 omega
theorem zmp (h:DmV B w g bx p) {q:Option Addr} {cap:Nat} {l:List InsD} (hl:SlR insE w q l) (hn:l.length≤140737488351232) :
  Calls Tryz.prog 151 #[.slice q l.length cap,.pointer (some ⟨bx,0,none⟩)] w fun e w'=>e = .returned (.bool (zbx l p.locs.length))∧Below w.heap.size w w':=by
 refine zae (S:=sg 11) (sgOk _) (args:=[.slice q l.length cap,.pointer (some ⟨bx,0,none⟩)]) Tryz.func151 rfl rfl (Nat.le_of_ble_eq_true rfl) rfl ?_
 obtain⟨p1,c1,p2,c2,p3,c3,p4,c4,h0,h1,h2,h3,h4,h5⟩:=h.h
 refine⟨_,zac (zaa h.b) (i:=0) rfl,?_⟩
 refine⟨_,zac h0 (i:=1) rfl,?_⟩
 refine Calls.mono (zjy hl h.G hn) ?_
 rintro e V ⟨rfl,hb⟩
 exact⟨rfl,hb⟩
theorem zlz (sel:Bool) (h:DmV B w g bx p):Calls Tryz.prog 143 #[zkQ sel bx,.pointer (some ⟨bx,0,none⟩)] w fun e w'=>e = .returned (.bool (p.threads.all (zdH sel p)))∧Below w.heap.size w w':=by
 refine zae (S:=sg 20) (sgOk _) (args:=[zkQ sel bx,.pointer (some ⟨bx,0,none⟩)]) Tryz.func143 rfl rfl (Nat.le_of_ble_eq_true rfl) rfl ?_
 obtain⟨p1,c1,p2,c2,p3,c3,p4,c4,h0,h1,h2,h3,h4,h5⟩:=h.h
 obtain⟨xs,hxs,hr,hx⟩:=h3
 have hlen:p.threads.length=xs.length:=by rw [← hxs,List.length_map]
 have hln:=h.len.threads
 refine⟨_,zac (zaa h.b) (i:=0) rfl,?_⟩
 refine⟨_,zac h0 (i:=3) rfl,?_⟩
 refine⟨Nat,fun k=>⟨[(0,zkQ sel bx),(1,.pointer (some ⟨bx,0,none⟩)),(9,.slice p3 p.threads.length c3),(10,i64 p.threads.length),(11,i64 (k:Nat))],[]⟩,fun k X=>k≤p.threads.length∧(∀ l∈p.threads.take k,zdH sel p l=true)∧Below w.heap.size w X,fun k=>p.threads.length-k,0,
  (cvE rfl rfl),⟨Nat.zero_le _,by simp,Below.refl _ _⟩,?_⟩
 rintro k X ⟨hk,hall,hbX⟩
 dsimp only at hk hall ⊢
 have hX:=h.below hbX
 refine biE (fun hc=>?_) fun hc=>?_
 ·have hc:(k:Int)<(p.threads.length:Int):=of_decide_eq_true hc
  have hkl:k<p.threads.length:=by omega
  have hkx:k<xs.length:=by omega
  have e1:p.threads[k]=xs[k].1:=by simp [← hxs]
  obtain⟨b,o,hp3,hat⟩:=hr.get
  rcases hp3 with hp3 | rfl
  ·omega
  refine⟨k,rfl,hkl,?_⟩
  obtain⟨hb1,ha1⟩:=hat k hkx
  refine⟨_,zac (zbn (hbX.mono h.hB) hb1 ha1) (i:=0) rfl,?_⟩
  have hrow:SlR insE X xs[k].2.1 xs[k].1:=((hx _ (List.getElem_mem hkx)).below (hbX.mono h.hB)).slr hX.hB
  have hln1:xs[k].1.length≤140737488351232:=by rw [← e1];exact h.len.thread _ (List.getElem_mem _)
  have hfin:zdH sel p xs[k].1=false→p.threads.all (zdH sel p)=false:=fun hf=>by
   rw [List.all_eq_false]
   exact⟨p.threads[k],List.getElem_mem _,by rw [e1,hf];simp⟩
  have hgo:zdH sel p xs[k].1=true→∀ l∈p.threads.take (k+1),zdH sel p l=true:=fun ht=>by
   rw [List.take_succ_eq_append_getElem hkl]
   intro x hx
   rcases List.mem_append.1 hx with hx | hx
   ·exact hall x hx
   ·simp only [List.mem_singleton] at hx
    rw [hx,e1];exact ht
  cases sel with
  | false =>
   refine Calls.mono (znK xs[k].2.1 xs[k].2.2 xs[k].1) ?_
   rintro e _ ⟨rfl,rfl⟩
   refine biE (fun hb=>?_) fun hb=>?_
   ·have hb:(!zdH false p xs[k].1)=true:=hb
    exact⟨rb (hfin (by simpa using hb)).symm,hbX⟩
   ·have hb:(!zdH false p xs[k].1)=false:=hb
    refine⟨_,(zad (by omega)).trans rfl,?_⟩
    exact⟨k+1,(cvE rfl rfl),⟨hkl,hgo (by simpa using hb),hbX⟩,by show p.threads.length-(k+1)<p.threads.length-k;omega⟩
  | true =>
   refine Calls.mono (zmp hX (cap:=xs[k].2.2) hrow hln1) ?_
   rintro e Y ⟨rfl,hbY⟩
   refine biE (fun hb=>?_) fun hb=>?_
   ·have hb:(!zdH true p xs[k].1)=true:=hb
    exact⟨rb (hfin (by simpa using hb)).symm,hbX.trans (hbY.mono hbX.size)⟩
   ·have hb:(!zdH true p xs[k].1)=false:=hb
    refine⟨_,(zad (by omega)).trans rfl,?_⟩
    exact⟨k+1,(cvE rfl rfl),⟨hkl,hgo (by simpa using hb),hbX.trans (hbY.mono hbX.size)⟩,by show p.threads.length-(k+1)<p.threads.length-k;omega⟩
 ·have hc:¬ (k:Int)<(p.threads.length:Int):=of_decide_eq_false hc
  obtain rfl:k=p.threads.length:=by omega
  rw [List.take_length] at hall
  exact⟨rb (List.all_eq_true.2 hall).symm,hbX⟩
theorem zpX (h:DmV B w g bx p):Calls Tryz.prog 144 #[.pointer (some ⟨bx,0,none⟩)] w fun e w'=>e = .returned (.bool (zer p.name))∧Below w.heap.size w w':=by
 refine zae (S:=sg 7) (sgOk _) (args:=[.pointer (some ⟨bx,0,none⟩)]) Tryz.func144 rfl rfl (Nat.le_of_ble_eq_true rfl) rfl ?_
 obtain⟨p1,c1,p2,c2,p3,c3,p4,c4,h0,h1,h2,h3,h4,h5⟩:=h.h
 refine⟨_,zac (zaa h.b) (i:=0) rfl,?_⟩
 refine⟨_,zac h0 (i:=0) rfl,?_⟩
 refine Calls.mono (zmS p.name h.len.name w) ?_
 rintro e V ⟨rfl,hb⟩
 exact⟨rfl,hb⟩
theorem zpW (h:DmV B w g bx p):Calls Tryz.prog 146 #[.pointer (some ⟨bx,0,none⟩)] w fun e w'=>e = .returned (.bool (zgx p))∧Below w.heap.size w w':=by
 refine zae (S:=sg 4) (sgOk _) (args:=[.pointer (some ⟨bx,0,none⟩)]) Tryz.func146 rfl rfl (Nat.le_of_ble_eq_true rfl) rfl ?_
 obtain⟨p1,c1,p2,c2,p3,c3,p4,c4,h0,h1,h2,h3,h4,h5⟩:=h.h
 refine⟨_,zac (zaa h.b) (i:=0) rfl,?_⟩
 refine Calls.mono (zie h0 h.hg h1 h.hB h5 h.len) ?_
 rintro e V ⟨rfl,hb⟩
 exact⟨rfl,hb⟩
def evV (bx:Nat):Value := .func (.func 143) #[] #[.pointer (some ⟨bx,0,none⟩)]
theorem zpV (h:DmV B w g bx p) {ev:Nat} (hev:w.heap[ev]?=some (.cells #[evV bx] 187 (0,0))):Calls Tryz.prog 148 #[.pointer (some ⟨bx,0,none⟩),.pointer (some ⟨ev,0,none⟩)] w fun e w'=>e = .returned (.bool (decide (1≤p.threads.length)&&(decide (p.threads.length≤4)&&p.threads.all fun l=>decide (l.length≤12))))∧Below w.heap.size w w':=by
 refine zae (S:=sg 21) (sgOk _) (args:=[.pointer (some ⟨bx,0,none⟩),.pointer (some ⟨ev,0,none⟩)]) Tryz.func148 rfl rfl (Nat.le_of_ble_eq_true rfl) rfl ?_
 obtain⟨p1,c1,p2,c2,p3,c3,p4,c4,h0,h1,h2,h3,h4,h5⟩:=h.h
 refine⟨_,zac (zaa h.b) (i:=0) rfl,?_⟩
 refine⟨_,zac h0 (i:=3) rfl,?_⟩
 refine biE (fun ha=>?_) fun ha=>?_
 ·have ha:(1:Int)≤(p.threads.length:Int):=of_decide_eq_true ha
  refine⟨_,zac (zaa h.b) (i:=0) rfl,?_⟩
  refine⟨_,zac h0 (i:=3) rfl,?_⟩
  refine biE (fun hb=>?_) fun hb=>?_
  ·have hb:(p.threads.length:Int)≤4:=of_decide_eq_true hb
   refine⟨_,zac (zaa hev) (i:=0) rfl,?_⟩
   refine Calls.mono (zlz false h) ?_
   rintro e V ⟨rfl,hbV⟩
   refine⟨rb ?_,hbV⟩
   rw [decide_eq_true (by omega),decide_eq_true (by omega),Bool.true_and,Bool.true_and];rfl
  ·have hb:¬ (p.threads.length:Int)≤4:=of_decide_eq_false hb
   exact⟨rb (by rw [decide_eq_false (p:=p.threads.length≤4) (by omega)];simp),Below.refl _ _⟩
 ·have ha:¬ (1:Int)≤(p.threads.length:Int):=of_decide_eq_false ha
  refine brF ?_
  exact⟨rb (by rw [decide_eq_false (p:=1≤p.threads.length) (by omega)];rfl),Below.refl _ _⟩
theorem zpU (h:DmV B w g bx p) {ev:Nat} (hev:w.heap[ev]?=some (.cells #[evV bx] 187 (0,0))):Calls Tryz.prog 150 #[.pointer (some ⟨ev,0,none⟩),.pointer (some ⟨bx,0,none⟩)] w fun e w'=>e = .returned (.bool (p.threads.all fun l=>zbx l p.locs.length))∧Below w.heap.size w w':=by
 refine zae (S:=sg 6) (sgOk _) (args:=[.pointer (some ⟨ev,0,none⟩),.pointer (some ⟨bx,0,none⟩)]) Tryz.func150 rfl rfl (Nat.le_of_ble_eq_true rfl) rfl ?_
 refine⟨_,zac (zaa hev) (i:=0) rfl,?_⟩
 refine Calls.mono (zlz true h) ?_
 rintro e V ⟨rfl,hbV⟩
 exact⟨rfl,hbV⟩
theorem zpT (h:DmV B w g bx p):Calls Tryz.prog 153 #[.pointer (some ⟨bx,0,none⟩)] w fun e w'=>e = .returned (.bool (decide (p.ask=1)||(decide (p.ask=2)||decide (p.ask=3))))∧Below w.heap.size w w':=by
 refine zae (S:=sg 21) (sgOk _) (args:=[.pointer (some ⟨bx,0,none⟩)]) Tryz.func153 rfl rfl (Nat.le_of_ble_eq_true rfl) rfl ?_
 obtain⟨p1,c1,p2,c2,p3,c3,p4,c4,h0,h1,h2,h3,h4,h5⟩:=h.h
 refine⟨_,zac (zaa h.b) (i:=0) rfl,?_⟩
 refine⟨_,zac h0 (i:=4) rfl,?_⟩
 refine biE (fun ha=>?_) fun ha=>?_
 ·have ha:decide (p.ask=1)=true:=(u8d p.ask 1).symm.trans ha
  refine brT ?_
  exact⟨rb (by rw [ha];rfl),Below.refl _ _⟩
 ·have ha:decide (p.ask=1)=false:=(u8d p.ask 1).symm.trans ha
  refine⟨_,zac (zaa h.b) (i:=0) rfl,?_⟩
  refine⟨_,zac h0 (i:=4) rfl,?_⟩
  refine biE (fun hb=>?_) fun hb=>?_
  ·have hb:decide (p.ask=2)=true:=(u8d p.ask 2).symm.trans hb
   exact⟨rb (by rw [ha,hb];rfl),Below.refl _ _⟩
  ·have hb:decide (p.ask=2)=false:=(u8d p.ask 2).symm.trans hb
   refine⟨_,zac (zaa h.b) (i:=0) rfl,?_⟩
   refine⟨_,zac h0 (i:=4) rfl,?_⟩
   exact⟨rb (by rw [ha,hb];exact u8d p.ask 3),Below.refl _ _⟩
theorem zpS (h:DmV B w g bx p):Calls Tryz.prog 154 #[.pointer (some ⟨bx,0,none⟩)] w fun e w'=>e = .returned (.bool (zcu p.threads.length p.locs.length 20 p.cond))∧Below w.heap.size w w':=by
 refine zae (S:=sg 17) (sgOk _) (args:=[.pointer (some ⟨bx,0,none⟩)]) Tryz.func154 rfl rfl (Nat.le_of_ble_eq_true rfl) rfl ?_
 have hbd:Below w.heap.size w w.drew:=(Below.refl _ w).drew
 have hd:=h.below hbd
 obtain⟨p1,c1,p2,c2,p3,c3,p4,c4,h0,h1,h2,h3,h4,h5⟩:=hd.h
 refine DrawE.ord [] [0,1,2,3,4,5,6,7,8,9,10,11,12,13,14,15] (by kernel_rfl) ?_
 refine⟨_,zac (zaa hd.b) (i:=0) rfl,?_⟩
 refine⟨zcz p.cond p4 c4,rfl,zaw (n:=5) (m:=5) h0,hd.hg,?_⟩
 refine⟨_,zac (zaa hd.b) (i:=0) rfl,?_⟩
 refine⟨_,zac h0 (i:=3) rfl,?_⟩
 refine⟨_,zac (zaa hd.b) (i:=0) rfl,?_⟩
 refine⟨_,zac h0 (i:=1) rfl,?_⟩
 refine Calls.mono (zqg hd.hB h4) ?_
 rintro e V ⟨rfl,hbV⟩
 exact⟨hbV,rfl,hbd.trans hbV⟩
def dmFs (bx ev:Nat):List Value:=[i64 70,.func (.func 144) #[] #[.pointer (some ⟨bx,0,none⟩)],i64 71,.func (.func 146) #[] #[.pointer (some ⟨bx,0,none⟩)],
 i64 72,.func (.func 148) #[] #[.pointer (some ⟨bx,0,none⟩),.pointer (some ⟨ev,0,none⟩)],i64 73,.func (.func 150) #[] #[.pointer (some ⟨ev,0,none⟩),.pointer (some ⟨bx,0,none⟩)],
 i64 75,.func (.func 153) #[] #[.pointer (some ⟨bx,0,none⟩)],i64 74,.func (.func 154) #[] #[.pointer (some ⟨bx,0,none⟩)]]
theorem zlJ {g:Nat} {w:World}:Calls Tryz.prog 110 #[.pointer (some ⟨g,0,none⟩)] w fun e w'=>e = .returned (.slice (some ⟨w.heap.size+2,0,none⟩) 6 6) ∧
  w'.heap[w.heap.size]?=some (.cells #[.pointer (some ⟨g,0,none⟩)] 116 (0,0))∧w'.heap[w.heap.size+1]?=some (.cells #[evV w.heap.size] 187 (0,0)) ∧
  w'.heap[w.heap.size+2]?=some (.cells (dmFs w.heap.size (w.heap.size+1)).toArray 155 (0,0))∧w'.heap.size=w.heap.size+3∧Below w.heap.size w w':=by
 refine zae (S:=sg 18) (sgOk _) (args:=[.pointer (some ⟨g,0,none⟩)]) Tryz.func110 rfl rfl (Nat.le_of_ble_eq_true rfl) rfl ?_
 have hs:=World.size_alloc w (.cells (Value.pointer (some ⟨g,0,none⟩)).cells 116)
 refine zap (X:=w.alloc (.cells (Value.pointer (some ⟨g,0,none⟩)).cells 116)) (v:=evV w.heap.size) (ttOk.get 187 _ rfl) rfl rfl rfl fun V hbV fV sV=>?_
 generalize hev:(w.alloc (.cells (Value.pointer (some ⟨g,0,none⟩)).cells 116)).heap.size=ev at *
 refine⟨[i64 70,.func (.func 144) #[] #[.pointer (some ⟨w.heap.size,0,none⟩)]],rfl,?_⟩
 refine⟨[i64 71,.func (.func 146) #[] #[.pointer (some ⟨w.heap.size,0,none⟩)]],rfl,?_⟩
 refine⟨[i64 72,.func (.func 148) #[] #[.pointer (some ⟨w.heap.size,0,none⟩),.pointer (some ⟨ev,0,none⟩)]],rfl,?_⟩
 refine⟨[i64 73,.func (.func 150) #[] #[.pointer (some ⟨ev,0,none⟩),.pointer (some ⟨w.heap.size,0,none⟩)]],rfl,?_⟩
 refine⟨[i64 75,.func (.func 153) #[] #[.pointer (some ⟨w.heap.size,0,none⟩)]],rfl,?_⟩
 refine⟨[i64 74,.func (.func 154) #[] #[.pointer (some ⟨w.heap.size,0,none⟩)]],rfl,?_⟩
 refine⟨⟨by decide,by decide,rfl⟩,dmFs w.heap.size ev,rfl,?_⟩
 subst hs
 refine⟨?_,?_,?_,?_,?_,?_⟩
 ·rw [sV];rfl
 ·exact hold _ (zab (hev▸hbV) (hnew w _))
 ·exact hold _ fV
 ·rw [show w.heap.size+2=V.heap.size from sV.symm];exact hnew _ _
 ·rw [World.size_alloc,sV]
 ·exact (((Below.refl _ w).alloc (Nat.le_refl _) _).trans (hbV.mono (by omega))).alloc (by omega) _
end
def okL (p:Prg):List Bool:=[zer p.name,zgx p,decide (1≤p.threads.length)&&(decide (p.threads.length≤4)&&p.threads.all fun l=>decide (l.length≤12)),p.threads.all (fun l=>zbx l p.locs.length),
 decide (p.ask=1)||(decide (p.ask=2)||decide (p.ask=3)),zcu p.threads.length p.locs.length 20 p.cond]
theorem zk6 {p:Prg}:zh9 p=(okL p).all id:=by
 unfold zh9 okL
 simp only [List.all_cons,List.all_nil,Bool.and_true,id]
theorem ziz {B:Nat} {p:Prg} {vs:List Value} {w:World} (hB:B≤w.heap.size) (hp:PrgV B w vs p) (hG:GlobC w) :
  Calls Tryz.prog 80 #[.agg vs.toArray] w fun e w'=>∃ n:Int,e = .returned (i64 n)∧(n=0↔zh9 p=true)∧Below w.heap.size w w':=by
 obtain⟨hl,p1,c1,p2,c2,p3,c3,p4,c4,rfl,h1,h2,h3,h4,h5⟩:=hp
 refine zae (S:=sg 18) (sgOk _) (args:=[.agg (zaY p p1 c1 p2 c2 p3 c3 p4 c4).toArray]) Tryz.func80 rfl rfl (Nat.le_of_ble_eq_true rfl) rfl ?_
 obtain⟨L,hL⟩:=nm (w.heap.size)
 have hn:=hnew w (.cells (Value.agg (zaY p p1 c1 p2 c2 p3 c3 p4 c4).toArray).cells 71)
 have hs:=World.size_alloc w (.cells (Value.agg (zaY p p1 c1 p2 c2 p3 c3 p4 c4).toArray).cells 71)
 have hb:Below w.heap.size w (w.alloc (.cells (Value.agg (zaY p p1 c1 p2 c2 p3 c3 p4 c4).toArray).cells 71)):=(Below.refl _ w).alloc (Nat.le_refl _) _
 refine Calls.mono zlJ ?_
 rintro e V ⟨rfl,hbx,hev,hsl,hsz,hbV⟩
 have hbw:Below w.heap.size w V:=hb.trans (hbV.mono hb.size)
 have p1':some (Value.slice (some ⟨(w.alloc (.cells (Value.agg (zaY p p1 c1 p2 c2 p3 c3 p4 c4).toArray).cells 71)).heap.size+2,0,none⟩) 6 6)=some (Value.slice (some ⟨L+3,0,none⟩) 6 6):=by rw [hs,hL]
 have hD:DmV B V L (L+1) p:=by
  have hbB:=hbw.mono hB
  rw [hs,← hL] at hbx
  refine⟨Nat.le_trans hB hbw.size,by omega,hl,⟨p1,c1,p2,c2,p3,c3,p4,c4,zaa (zab hbV (hL▸hn)),h1.below hbB,h2.below hbB,h3.below hbB,h4.kept hbB,h5⟩,hbx,hG.below hbw⟩
 rw [hs,← hL] at hev hsl
 clear hn hs hb hbx hbV hsz
 refine⟨Nat,fun j=>⟨[(5,.slice (some ⟨L+3,0,none⟩) 6 6),(6,i64 6),(7,i64 (j:Nat))],[]⟩,
  fun j X=>j≤6∧(∀ i,i<j→(okL p)[i]?=some true)∧DmV B X L (L+1) p∧X.heap[L+2]?=some (.cells #[evV (L+1)] 187 (0,0))∧X.heap[L+3]?=some (.cells (dmFs (L+1) (L+2)).toArray 155 (0,0))∧Below w.heap.size w X,fun j=>6-j,0,
  ⟨.cons p1' (.cons rfl (.cons rfl .nil)),rfl⟩,⟨Nat.zero_le _,fun i hi=>by omega,hD,hev,hsl,hbw⟩,?_⟩
 clear hD hev hsl hbw p1'
 rintro j X ⟨hj,hpre,hD,hev,hsl,hbw⟩
 dsimp only at hj hpre ⊢
 refine biE (fun hc=>?_) fun hc=>?_
 ·have hc:(j:Int)<6:=of_decide_eq_true hc
  have hno:∀ {i:Nat},(okL p)[i]?=some false→zh9 p=false:=fun h=>by rw [zk6];exact znx h
  have hcs:j=0∨j=1∨j=2∨j=3∨j=4∨j=5:=by omega
  rcases hcs with rfl | rfl | rfl | rfl | rfl | rfl
  ·refine⟨0,rfl,by decide,?_⟩
   refine⟨[i64 70,.func (.func 144) #[] #[.pointer (some ⟨L+1,0,none⟩)]],rfl,zaw (n:=0) (m:=2) (zaa hsl),hlt hsl,?_⟩
   refine zap (X:=X) (v := .agg [i64 70,.func (.func 144) #[] #[.pointer (some ⟨L+1,0,none⟩)]].toArray) (ttOk.get 155 _ rfl) rfl rfl rfl fun Y hbY fY sY=>?_
   have hY:=hD.below hbY
   have hevY:=zab hbY hev
   have hslY:=zab hbY hsl
   refine⟨_,zac (zaa fY) (i:=1) rfl,?_⟩
   refine Calls.mono (zpX hY) ?_
   rintro e W ⟨rfl,hbW⟩
   have hbX:Below w.heap.size w W:=(hbw.trans (hbY.mono hbw.size)).trans (hbW.mono (Nat.le_trans hbw.size hbY.size))
   refine biE (fun hb=>?_) fun hb=>?_
   ·have hb:(!((okL p)[0]'(by show 0<6;decide)))=true:=hb
    have hb:(okL p)[0]?=some false:=by rw [List.getElem?_eq_getElem (by show 0<6;decide)];exact congrArg some (by rw [← Bool.not_not ((okL p)[0]'(by show 0<6;decide)),hb];rfl)
    refine⟨_,zac (zaa (zab hbW fY)) (i:=0) rfl,?_⟩
    exact⟨70,rfl,⟨fun h=>absurd h (by decide),fun h=>by rw [hno hb] at h;cases h⟩,hbX⟩
   ·have hb:(!((okL p)[0]'(by show 0<6;decide)))=false:=hb
    have hb:(okL p)[0]?=some true:=by rw [List.getElem?_eq_getElem (by show 0<6;decide)];exact congrArg some (by rw [← Bool.not_not ((okL p)[0]'(by show 0<6;decide)),hb];rfl)
    refine⟨_,(zad (by omega)).trans rfl,?_⟩
    refine⟨1,(cvE rfl rfl),⟨by omega,fun i hi=>?_,hY.below hbW,zab hbW hevY,zab hbW hslY,hbX⟩,by decide⟩
    by_cases hik:i=0
    ·rw [hik];exact hb
    ·exact hpre i (by omega)
  ·refine⟨1,rfl,by decide,?_⟩
   refine⟨[i64 71,.func (.func 146) #[] #[.pointer (some ⟨L+1,0,none⟩)]],rfl,zaw (n:=2) (m:=2) (zaa hsl),hlt hsl,?_⟩
   refine zap (X:=X) (v := .agg [i64 71,.func (.func 146) #[] #[.pointer (some ⟨L+1,0,none⟩)]].toArray) (ttOk.get 155 _ rfl) rfl rfl rfl fun Y hbY fY sY=>?_
   have hY:=hD.below hbY
   have hevY:=zab hbY hev
   have hslY:=zab hbY hsl
   refine⟨_,zac (zaa fY) (i:=1) rfl,?_⟩
   refine Calls.mono (zpW hY) ?_
   rintro e W ⟨rfl,hbW⟩
   have hbX:Below w.heap.size w W:=(hbw.trans (hbY.mono hbw.size)).trans (hbW.mono (Nat.le_trans hbw.size hbY.size))
   refine biE (fun hb=>?_) fun hb=>?_
   ·have hb:(!((okL p)[1]'(by show 1<6;decide)))=true:=hb
    have hb:(okL p)[1]?=some false:=by rw [List.getElem?_eq_getElem (by show 1<6;decide)];exact congrArg some (by rw [← Bool.not_not ((okL p)[1]'(by show 1<6;decide)),hb];rfl)
    refine⟨_,zac (zaa (zab hbW fY)) (i:=0) rfl,?_⟩
    exact⟨71,rfl,⟨fun h=>absurd h (by decide),fun h=>by rw [hno hb] at h;cases h⟩,hbX⟩
   ·have hb:(!((okL p)[1]'(by show 1<6;decide)))=false:=hb
    have hb:(okL p)[1]?=some true:=by rw [List.getElem?_eq_getElem (by show 1<6;decide)];exact congrArg some (by rw [← Bool.not_not ((okL p)[1]'(by show 1<6;decide)),hb];rfl)
    refine⟨_,(zad (by omega)).trans rfl,?_⟩
    refine⟨2,(cvE rfl rfl),⟨by omega,fun i hi=>?_,hY.below hbW,zab hbW hevY,zab hbW hslY,hbX⟩,by decide⟩
    by_cases hik:i=1
    ·rw [hik];exact hb
    ·exact hpre i (by omega)
  ·refine⟨2,rfl,by decide,?_⟩
   refine⟨[i64 72,.func (.func 148) #[] #[.pointer (some ⟨L+1,0,none⟩),.pointer (some ⟨L+2,0,none⟩)]],rfl,zaw (n:=4) (m:=2) (zaa hsl),hlt hsl,?_⟩
   refine zap (X:=X) (v := .agg [i64 72,.func (.func 148) #[] #[.pointer (some ⟨L+1,0,none⟩),.pointer (some ⟨L+2,0,none⟩)]].toArray) (ttOk.get 155 _ rfl) rfl rfl rfl fun Y hbY fY sY=>?_
   have hY:=hD.below hbY
   have hevY:=zab hbY hev
   have hslY:=zab hbY hsl
   refine⟨_,zac (zaa fY) (i:=1) rfl,?_⟩
   refine Calls.mono (zpV hY hevY) ?_
   rintro e W ⟨rfl,hbW⟩
   have hbX:Below w.heap.size w W:=(hbw.trans (hbY.mono hbw.size)).trans (hbW.mono (Nat.le_trans hbw.size hbY.size))
   refine biE (fun hb=>?_) fun hb=>?_
   ·have hb:(!((okL p)[2]'(by show 2<6;decide)))=true:=hb
    have hb:(okL p)[2]?=some false:=by rw [List.getElem?_eq_getElem (by show 2<6;decide)];exact congrArg some (by rw [← Bool.not_not ((okL p)[2]'(by show 2<6;decide)),hb];rfl)
    refine⟨_,zac (zaa (zab hbW fY)) (i:=0) rfl,?_⟩
    exact⟨72,rfl,⟨fun h=>absurd h (by decide),fun h=>by rw [hno hb] at h;cases h⟩,hbX⟩
   ·have hb:(!((okL p)[2]'(by show 2<6;decide)))=false:=hb
    have hb:(okL p)[2]?=some true:=by rw [List.getElem?_eq_getElem (by show 2<6;decide)];exact congrArg some (by rw [← Bool.not_not ((okL p)[2]'(by show 2<6;decide)),hb];rfl)
    refine⟨_,(zad (by omega)).trans rfl,?_⟩
    refine⟨3,(cvE rfl rfl),⟨by omega,fun i hi=>?_,hY.below hbW,zab hbW hevY,zab hbW hslY,hbX⟩,by decide⟩
    by_cases hik:i=2
    ·rw [hik];exact hb
    ·exact hpre i (by omega)
  ·refine⟨3,rfl,by decide,?_⟩
   refine⟨[i64 73,.func (.func 150) #[] #[.pointer (some ⟨L+2,0,none⟩),.pointer (some ⟨L+1,0,none⟩)]],rfl,zaw (n:=6) (m:=2) (zaa hsl),hlt hsl,?_⟩
   refine zap (X:=X) (v := .agg [i64 73,.func (.func 150) #[] #[.pointer (some ⟨L+2,0,none⟩),.pointer (some ⟨L+1,0,none⟩)]].toArray) (ttOk.get 155 _ rfl) rfl rfl rfl fun Y hbY fY sY=>?_
   have hY:=hD.below hbY
   have hevY:=zab hbY hev
   have hslY:=zab hbY hsl
   refine⟨_,zac (zaa fY) (i:=1) rfl,?_⟩
   refine Calls.mono (zpU hY hevY) ?_
   rintro e W ⟨rfl,hbW⟩
   have hbX:Below w.heap.size w W:=(hbw.trans (hbY.mono hbw.size)).trans (hbW.mono (Nat.le_trans hbw.size hbY.size))
   refine biE (fun hb=>?_) fun hb=>?_
   ·have hb:(!((okL p)[3]'(by show 3<6;decide)))=true:=hb
    have hb:(okL p)[3]?=some false:=by rw [List.getElem?_eq_getElem (by show 3<6;decide)];exact congrArg some (by rw [← Bool.not_not ((okL p)[3]'(by show 3<6;decide)),hb];rfl)
    refine⟨_,zac (zaa (zab hbW fY)) (i:=0) rfl,?_⟩
    exact⟨73,rfl,⟨fun h=>absurd h (by decide),fun h=>by rw [hno hb] at h;cases h⟩,hbX⟩
   ·have hb:(!((okL p)[3]'(by show 3<6;decide)))=false:=hb
    have hb:(okL p)[3]?=some true:=by rw [List.getElem?_eq_getElem (by show 3<6;decide)];exact congrArg some (by rw [← Bool.not_not ((okL p)[3]'(by show 3<6;decide)),hb];rfl)
    refine⟨_,(zad (by omega)).trans rfl,?_⟩
    refine⟨4,(cvE rfl rfl),⟨by omega,fun i hi=>?_,hY.below hbW,zab hbW hevY,zab hbW hslY,hbX⟩,by decide⟩
    by_cases hik:i=3
    ·rw [hik];exact hb
    ·exact hpre i (by omega)
  ·refine⟨4,rfl,by decide,?_⟩
   refine⟨[i64 75,.func (.func 153) #[] #[.pointer (some ⟨L+1,0,none⟩)]],rfl,zaw (n:=8) (m:=2) (zaa hsl),hlt hsl,?_⟩
   refine zap (X:=X) (v := .agg [i64 75,.func (.func 153) #[] #[.pointer (some ⟨L+1,0,none⟩)]].toArray) (ttOk.get 155 _ rfl) rfl rfl rfl fun Y hbY fY sY=>?_
   have hY:=hD.below hbY
   have hevY:=zab hbY hev
   have hslY:=zab hbY hsl
   refine⟨_,zac (zaa fY) (i:=1) rfl,?_⟩
   refine Calls.mono (zpT hY) ?_
   rintro e W ⟨rfl,hbW⟩
   have hbX:Below w.heap.size w W:=(hbw.trans (hbY.mono hbw.size)).trans (hbW.mono (Nat.le_trans hbw.size hbY.size))
   refine biE (fun hb=>?_) fun hb=>?_
   ·have hb:(!((okL p)[4]'(by show 4<6;decide)))=true:=hb
    have hb:(okL p)[4]?=some false:=by rw [List.getElem?_eq_getElem (by show 4<6;decide)];exact congrArg some (by rw [← Bool.not_not ((okL p)[4]'(by show 4<6;decide)),hb];rfl)
    refine⟨_,zac (zaa (zab hbW fY)) (i:=0) rfl,?_⟩
    exact⟨75,rfl,⟨fun h=>absurd h (by decide),fun h=>by rw [hno hb] at h;cases h⟩,hbX⟩
   ·have hb:(!((okL p)[4]'(by show 4<6;decide)))=false:=hb
    have hb:(okL p)[4]?=some true:=by rw [List.getElem?_eq_getElem (by show 4<6;decide)];exact congrArg some (by rw [← Bool.not_not ((okL p)[4]'(by show 4<6;decide)),hb];rfl)
    refine⟨_,(zad (by omega)).trans rfl,?_⟩
    refine⟨5,(cvE rfl rfl),⟨by omega,fun i hi=>?_,hY.below hbW,zab hbW hevY,zab hbW hslY,hbX⟩,by decide⟩
    by_cases hik:i=4
    ·rw [hik];exact hb
    ·exact hpre i (by omega)
  ·refine⟨5,rfl,by decide,?_⟩
   refine⟨[i64 74,.func (.func 154) #[] #[.pointer (some ⟨L+1,0,none⟩)]],rfl,zaw (n:=10) (m:=2) (zaa hsl),hlt hsl,?_⟩
   refine zap (X:=X) (v := .agg [i64 74,.func (.func 154) #[] #[.pointer (some ⟨L+1,0,none⟩)]].toArray) (ttOk.get 155 _ rfl) rfl rfl rfl fun Y hbY fY sY=>?_
   have hY:=hD.below hbY
   have hevY:=zab hbY hev
   have hslY:=zab hbY hsl
   refine⟨_,zac (zaa fY) (i:=1) rfl,?_⟩
   refine Calls.mono (zpS hY) ?_
   rintro e W ⟨rfl,hbW⟩
   have hbX:Below w.heap.size w W:=(hbw.trans (hbY.mono hbw.size)).trans (hbW.mono (Nat.le_trans hbw.size hbY.size))
   refine biE (fun hb=>?_) fun hb=>?_
   ·have hb:(!((okL p)[5]'(by show 5<6;decide)))=true:=hb
    have hb:(okL p)[5]?=some false:=by rw [List.getElem?_eq_getElem (by show 5<6;decide)];exact congrArg some (by rw [← Bool.not_not ((okL p)[5]'(by show 5<6;decide)),hb];rfl)
    refine⟨_,zac (zaa (zab hbW fY)) (i:=0) rfl,?_⟩
    exact⟨74,rfl,⟨fun h=>absurd h (by decide),fun h=>by rw [hno hb] at h;cases h⟩,hbX⟩
   ·have hb:(!((okL p)[5]'(by show 5<6;decide)))=false:=hb
    have hb:(okL p)[5]?=some true:=by rw [List.getElem?_eq_getElem (by show 5<6;decide)];exact congrArg some (by rw [← Bool.not_not ((okL p)[5]'(by show 5<6;decide)),hb];rfl)
    refine⟨_,(zad (by omega)).trans rfl,?_⟩
    refine⟨6,(cvE rfl rfl),⟨by omega,fun i hi=>?_,hY.below hbW,zab hbW hevY,zab hbW hslY,hbX⟩,by decide⟩
    by_cases hik:i=5
    ·rw [hik];exact hb
    ·exact hpre i (by omega)
 ·have hc:¬ (j:Int)<6:=of_decide_eq_false hc
  obtain rfl:j=6:=by omega
  exact⟨0,rfl,⟨fun _=>by rw [zk6];exact zjv hpre rfl,fun _=>rfl⟩,hbw⟩
def ThrsW (B:Nat) (w:World) (p:Option Addr) (l:List (List InsD)):Prop:=∃ xs:List ThrR,xs.map (·.1)=l∧RowB thrE B w p xs∧∀ x∈xs,RowB insE B w x.2.1 x.1∧∀ a,x.2.1=some a→a.block<B
structure PrgX (B:Nat) (w:World) (vs:List Value) (p:Prg):Prop where
 v:PrgV B w vs p
 th:∃ p3 c3,vs[3]?=some (.slice p3 p.threads.length c3)∧ThrsW B w p3 p.threads
 init:∃ p2 c2,vs[2]?=some (.slice p2 p.init.length c2)∧RowB zaG B w p2 p.init
theorem ThrsW.below {B:Nat} {w w2:World} {p:Option Addr} {l:List (List InsD)} (h:ThrsW B w p l) (hb:Below B w w2):ThrsW B w2 p l:=by
 obtain⟨xs,h1,h2,h3⟩:=h
 exact⟨xs,h1,h2.below hb,fun x hx=>⟨(h3 x hx).1.below hb,(h3 x hx).2⟩⟩
theorem PrgX.below {B:Nat} {w w2:World} {vs:List Value} {p:Prg} (h:PrgX B w vs p) (hb:Below B w w2):PrgX B w2 vs p:=by
 obtain⟨h1,⟨p3,c3,h2,h3⟩,⟨p2,c2,h4,h5⟩⟩:=h
 exact⟨h1.below hb,⟨p3,c3,h2,h3.below hb⟩,⟨p2,c2,h4,h5.below hb⟩⟩
def zhe (threads:List (List InsD)) (vals:List UInt8):Bool :=
 decide (1≤vals.length)&&(decide (vals.length≤12)&&((threads.all fun l=>decide ((zct l vals).length≤4096))&&(decide ((vals++threads.flatMap fun l=>zbR (zct l vals)).length≤12)&&srt8 (vals++threads.flatMap fun l=>zbR (zct l vals)))))
def zgp (threads:List (List InsD)) (vals:List UInt8):List UInt8:=ded (vals++threads.flatMap fun l=>zbR (zct l vals))
def zjD (threads:List (List InsD)):Nat→List UInt8→Option (List UInt8)
 | 0,_=>none
 | n+1,vals=>if zhe threads vals=true then (if (zgp threads vals).length=vals.length then some vals else zjD threads n (zgp threads vals)) else none
structure RunK (l:List InsD) (R:RunD):Prop where
 m:R.many≤R.pc
 p:R.pc≤l.length
 d:∀ i,R.deps i<2^32
 c:R.ctl<2^32
 s:∀ i,R.data i<2^32∧R.ctrl i<2^32∧R.att i<2^32
theorem zqs {n:Nat} (h:n<32):2^n<2^32:=Nat.pow_lt_pow_right (by decide) h
theorem zkw {f:Nat→Nat} {b:Nat} (h:∀ i,f i<b) {k v:Nat} (hv:v<b):∀ i,upd f k v i<b:=fun i=>by
 by_cases e:i=k
 ·rw [e,za1];exact hv
 ·rw [zck _ _ e];exact h i
theorem RunK.emit {l:List InsD} {R:RunD} (h:RunK l R) {k a v m:UInt8} {d:Nat} (hd:d<2^32):(∀ i,(zea R k a v m d).deps i<2^32)∧(zea R k a v m d).ctl<2^32∧∀ i,(zea R k a v m d).data i<2^32∧(zea R k a v m d).ctrl i<2^32∧(zea R k a v m d).att i<2^32:=by
 unfold zea
 exact⟨h.d,h.c,fun i=>⟨zkw (fun i=>(h.s i).1) hd i,zkw (fun i=>(h.s i).2.1) h.c i,(h.s i).2.2⟩⟩
theorem RunK.exec {l:List InsD} {R:RunD} {x:InsD} {v:UInt8} (h:RunK l R) (hx:ExOk x) (hp:R.pc<l.length) (h12:l.length≤12):RunK l (za9 R x v):=by
 obtain⟨e1,e2⟩:=zio (R:=R) (v:=v) hx
 have hm:=h.m
 have hb:=zqs (n:=R.many) (by omega)
 have hs:(∀ i,(za9 R x v).deps i<2^32)∧(za9 R x v).ctl<2^32∧∀ i,(za9 R x v).data i<2^32∧(za9 R x v).ctrl i<2^32∧(za9 R x v).att i<2^32:=by
  unfold za9 effR
  rcases hx with ⟨ho,_⟩ | ⟨ho,_⟩ | ho
  ·rw [if_pos ho]
   have:=h.emit (k:=1) (a:=x.loc) (v:=v) (m:=x.mode) (d:=0) (by decide)
   exact⟨zkw this.1 hb,this.2.1,this.2.2⟩
  ·rw [if_neg (by rw [ho];decide),if_pos ho]
   refine h.emit (k:=2) (a:=x.loc) (v:=(valR x.ar x.an R).1) (m:=x.mode) ?_
   unfold valR
   split
   ·exact h.d _
   ·exact (by decide:0<2^32)
  ·rw [if_neg (by rw [ho];decide),if_neg (by rw [ho];decide),if_neg (by rw [ho];decide),if_neg (by rw [ho];decide),if_neg (by rw [ho];decide),if_neg (by rw [ho];decide),if_pos ho]
   exact h.emit (k:=3) (a:=0) (v:=0) (m:=x.mode) (d:=0) (by decide)
 exact⟨by rw [e1,e2];omega,by rw [e1];omega,hs.1,hs.2.1,hs.2.2⟩
theorem RunK.go {l:List InsD} (h12:l.length≤12) (hx:∀ x∈l,ExOk x):∀ (n:Nat) (R:RunD),RunK l R→RunK l (goR l n R)
 | 0,R,h=>h
 | n+1,R,h=>by
  unfold goR
  split
  ·exact h
  ·rename_i x he
   split
   ·exact h
   ·have hp:=(List.getElem?_eq_some_iff.1 he).1
    have hm:x∈l:=List.mem_of_getElem? he
    exact RunK.go h12 hx n _ (h.exec (hx x hm) hp h12)
theorem RunK.spread {l:List InsD} {dom:List UInt8} (h12:l.length≤12) (hx:∀ x∈l,ExOk x):∀ (n:Nat) (R:RunD),RunK l R→∀ S∈zaI l dom n R,RunK l S
 | 0,R,h,S,hS=>by
  have hS:S∈[goR l l.length R]:=hS
  rw [List.mem_singleton] at hS
  rw [hS];exact RunK.go h12 hx _ _ h
 | n+1,R,h,S,hS=>by
  have hg:=RunK.go h12 hx l.length R h
  unfold zaI at hS
  split at hS
  ·rw [List.mem_singleton] at hS
   rw [hS];exact hg
  ·rename_i x he
   obtain⟨v,_,hS⟩:=List.mem_flatMap.1 hS
   have hp:=(List.getElem?_eq_some_iff.1 he).1
   have hm:x∈l:=List.mem_of_getElem? he
   exact RunK.spread h12 hx n _ (hg.exec (hx x hm) hp h12) S hS
theorem zlB {l:List InsD} {dom:List UInt8} (h12:l.length≤12) (hx:∀ x∈l,ExOk x):∀ R∈zct l dom,R.many≤24∧RunB R:=fun R hR=>by
 have h0:RunK l run0:=⟨Nat.le_refl _,Nat.zero_le _,fun _=>(by decide:0<2^32),(by decide:0<2^32),fun _=>⟨(by decide:0<2^32),(by decide:0<2^32),(by decide:0<2^32)⟩⟩
 have h:=RunK.spread h12 hx _ _ h0 R hR
 have:=h.m
 have:=h.p
 exact⟨by omega,fun i _=>h.s i⟩
theorem zkO {α:Type} {E:Enc α} {B:Nat} {w:World} {p:Option Addr} {l:List α} (h:RowB E B w p l) {i:Nat} (hi:i<l.length):∃ b o,p=some ⟨b,o,none⟩∧b<B∧∀ i (h:i<l.length),zau w ⟨b,o+i*E.sz,none⟩ (E.enc l[i]):=by
 obtain⟨b,o,hp,hat⟩:=h.get
 rcases hp with hp | hp
 ·omega
 ·exact⟨b,o,hp,(hat i hi).1,fun j hj=>(hat j hj).2⟩
section
variable {B n:Nat} {p:Prg} {pc:List Value} {V:List UInt8} {w:World}
theorem zjx (hB:B≤w.heap.size) (hP:PrgX B w pc p) (hG:GlobE w) (hok:zh9 p=true) (hx:∀ l∈p.threads,∀ x∈l,ExOk x) (h12:∀ l∈p.threads,l.length≤12) (hi1:1≤p.init.length) (hi12:p.init.length≤12) (his:srt8 p.init=true) (hQ:zjD p.threads n (ded p.init)=some V) :
  Calls Tryz.prog 81 #[.agg pc.toArray,i64 16] w fun e w'=>(∃ (q:Option Addr) (c:Nat),e = .returned (.tuple #[.slice q V.length c,i64 0])∧OwnS zaG 5 w.heap.size w' q c V)∧Below w.heap.size w w':=by
 refine zal (S:=sg 60) (sgOk _) (args:=[.agg pc.toArray,i64 16]) (.c .p (.s .p (.c .p .p))) Tryz.func81 rfl rfl (Nat.le_of_ble_eq_true rfl) rfl ?_
 obtain⟨L,hL⟩:=nm (w.heap.size)
 have hpc:=hP.v.size
 have hthr:=hP.v.len.threads
 refine⟨Unit,fun _=>⟨[(1,i64 16),(2,AtR L)],[]⟩,fun _ X=>X.heap[L]?=some (.cells pc.toArray 71 (0,0))∧Below w.heap.size w X,⟨(),⟨.cons rfl (.cons (by rw [hL];rfl) .nil),rfl⟩,by rw [hL];exact hnew w _,(Below.refl _ w).alloc (Nat.le_refl _) _⟩,?_⟩
 rintro _ X ⟨f0,hbX⟩
 refine brF ?_
 refine brF ?_
 refine⟨pc,hpc,zaa f0,hlt f0,?_⟩
 refine Calls.mono (ziz (Nat.le_trans hB hbX.size) (hP.v.below (hbX.mono hB)) (hG.c.below hbX)) ?_
 rintro e Y ⟨m,rfl,hm,hbY⟩
 have hm0:m=0:=hm.2 hok
 subst hm0
 refine brF ?_
 have hwY:=hbX.trans (hbY.mono hbX.size)
 have f0:=zab hbY f0
 obtain⟨_,⟨p3,c3,h3,xs,hxs,hrow,hxr⟩,⟨p2,c2,h2,hinit⟩⟩:=hP
 refine⟨Option Addr×Nat,fun s=>⟨[(1,i64 16),(2,AtR L),(6,.slice s.1 (ded p.init).length s.2)],[]⟩,fun s Z=>OwnS zaG 5 w.heap.size Z s.1 s.2 (ded p.init)∧Z.heap[L]?=some (.cells pc.toArray 71 (0,0))∧Below w.heap.size w Z,?_,?_⟩
 ·refine⟨_,zac (zaa f0) (i:=2) (by simpa using h2),?_⟩
  refine Calls.mono (zey ((hinit.below (hwY.mono hB)).slr (Nat.le_trans hB hwY.size)) hi1 hi12 his) ?_
  rintro e Z ⟨⟨q,c,rfl,ho⟩,hbZ⟩
  exact⟨(q,c),(cvE rfl rfl),OwnS.lower ho hwY.size,zab hbZ f0,hwY.trans (hbZ.mono hwY.size)⟩
 rintro⟨q,c⟩ X ⟨ho,f0,hbX⟩
 refine⟨Nat×List UInt8×Option Addr×Nat,fun s=>⟨[(1,i64 16),(2,AtR L),(6,.slice s.2.2.1 s.2.1.length s.2.2.2)],[]⟩,
  fun s Z=>zjD p.threads s.1 s.2.1=some V∧OwnS zaG 5 w.heap.size Z s.2.2.1 s.2.2.2 s.2.1∧Z.heap[L]?=some (.cells pc.toArray 71 (0,0))∧Below w.heap.size w Z,fun s=>s.1,(n,ded p.init,q,c),
  (cvE rfl rfl),⟨hQ,ho,f0,hbX⟩,?_⟩
 rintro⟨k,vals,q,c⟩ X ⟨hQ,ho,f0,hbX⟩
 dsimp only at hQ ho ⊢
 cases k with
 | zero=>cases hQ
 | succ k =>
 have hQ:(if zhe p.threads vals=true then (if (zgp p.threads vals).length=vals.length then some vals else zjD p.threads k (zgp p.threads vals)) else none)=some V:=hQ
 have hr:zhe p.threads vals=true:=by
  cases h:zhe p.threads vals with
  | true=>rfl
  | false=>rw [h] at hQ;cases hQ
 rw [if_pos hr] at hQ
 unfold zhe at hr
 simp only [Bool.and_eq_true,decide_eq_true_eq,List.all_eq_true] at hr
 obtain⟨r1,r2,r3,r4,r5⟩:=hr
 refine brN (decide_eq_false (by omega)) ?_
 have hq0:q=none→c=0:=fun e=>by
  rcases ho.inv with ⟨_,h,_⟩ | ⟨g,_,h,_⟩
  ·exact h
  ·rw [e] at h;cases h
 have hqb:∀ a,q=some a→a.block<X.heap.size:=fun a ha=>(zcx ho ha).2.1
 refine Calls.mono (zjB ho.row (by omega) hq0) ?_
 rintro e Y ⟨⟨q1,k1,rfl,o1⟩,hbY⟩
 have hwY:=hbX.trans (hbY.mono hbX.size)
 have f0Y:=zab hbY f0
 have hl3:xs.length=p.threads.length:=by rw [← hxs,List.length_map]
 refine⟨_,zac (zaa f0Y) (i:=3) (by simpa using h3),?_⟩
 obtain⟨g,hg⟩:∃ g:List InsD→List UInt8,g=fun l=>zbR (zct l vals):=⟨_,rfl⟩
 rw [← hg] at r4 r5
 have hnx:zgp p.threads vals=ded (vals++p.threads.flatMap g):=by unfold zgp;rw [hg]
 refine⟨Nat×Option Addr×Nat,fun s=>⟨[(1,i64 16),(2,AtR L),(6,.slice q vals.length c),(7,.slice s.2.1 (vals++(p.threads.take s.1).flatMap g).length s.2.2),(33,.slice p3 p.threads.length c3),(34,i64 p.threads.length),(35,i64 (s.1:Nat))],[]⟩,
  fun s Z=>s.1≤p.threads.length∧OwnS zaG 5 X.heap.size Z s.2.1 s.2.2 (vals++(p.threads.take s.1).flatMap g)∧Below X.heap.size X Z,fun s=>p.threads.length-s.1,(0,q1,k1),
  ⟨.cons rfl (.cons rfl (.cons rfl (.cons (by rw [List.take_zero,List.flatMap_nil,List.append_nil];rfl) (.cons rfl (.cons rfl (.cons rfl .nil)))))),rfl⟩,⟨Nat.zero_le _,by show OwnS zaG _ _ _ _ _ (vals++(p.threads.take 0).flatMap g);rw [List.take_zero,List.flatMap_nil,List.append_nil];exact o1,hbY⟩,?_⟩
 rintro⟨m,q1,k1⟩ Y ⟨hm,o1,hbY⟩
 dsimp only at hm o1 ⊢
 have hwY:=hbX.trans (hbY.mono hbX.size)
 have f0Y:=zab hbY f0
 have hXY:=hbY.size
 have lenTake:∀ j,(vals++(p.threads.take j).flatMap g).length≤12:=fun j=>by
  have e:p.threads.flatMap g=(p.threads.take j).flatMap g++(p.threads.drop j).flatMap g:=by rw [← List.flatMap_append,List.take_append_drop]
  rw [e,← List.append_assoc,List.length_append] at r4
  omega
 refine biE (fun hc=>?_) fun hc=>?_
 ·have hc:(m:Int)<(p.threads.length:Int):=of_decide_eq_true hc
  have hmt:m<p.threads.length:=by omega
  have hmx:m<xs.length:=by omega
  obtain⟨b3,o3,hp3,hb3,hat3⟩:=zkO (hrow.below (hwY.mono hB)) hmx
  have hB2:b3<Y.heap.size:=Nat.lt_of_lt_of_le hb3 (Nat.le_trans hB hwY.size)
  have e3:some (Value.slice p3 p.threads.length c3)=some (Value.slice (some ⟨b3,o3,none⟩) p.threads.length c3):=by rw [hp3]
  subst hp3
  refine⟨m,rfl,hmt,?_⟩
  refine⟨thrV xs[m],by have:=zac (hat3 m hmx) (i:=0) (v:=thrV xs[m]) rfl;exact this,?_⟩
  obtain⟨hrm,hrb⟩:=hxr _ (List.getElem_mem hmx)
  have hxm:xs[m].1=p.threads[m]:=by
   have:=congrArg (fun l=>l[m]?) hxs
   simp only [List.getElem?_map,List.getElem?_eq_getElem hmx,List.getElem?_eq_getElem hmt,Option.map_some,Option.some.injEq] at this
   exact this
  have hmem:=List.getElem_mem hmt
  have ex:=hx _ hmem
  have e12:=h12 _ hmem
  have hxl:xs[m].1.length=p.threads[m].length:=by rw [hxm]
  have hw:=zmi (w:=Y) (l:=p.threads[m]) (dom:=vals) (q:=xs[m].2.1) (p:=q) (cap:=xs[m].2.2) (cd:=c) (by rw [← hxm];exact (hrm.below (hwY.mono hB)).slr (Nat.le_trans hB hwY.size)) (ho.row.below hbY) e12 ex (fun R hR=>(zlB e12 ex R hR).1) (r3 _ hmem) (fun a ha=>Nat.lt_of_lt_of_le (hrb a ha) (Nat.le_trans hB hwY.size)) (fun a ha=>Nat.lt_of_lt_of_le (hqb a ha) hXY) (by omega)
  rw [← hxl] at hw
  have eg:zbR (zct p.threads[m] vals)=g p.threads[m]:=by rw [hg]
  rw [eg] at hw
  refine Calls.mono hw ?_
  rintro e Z ⟨⟨q2,k2,rfl,o2⟩,hbZ⟩
  refine brF ?_
  have tk:(p.threads.take (m+1)).flatMap g=(p.threads.take m).flatMap g++g p.threads[m]:=by
   rw [List.take_succ_eq_append_getElem hmt,List.flatMap_append,List.flatMap_cons,List.flatMap_nil,List.append_nil]
  have l1:=lenTake m
  have l2:=lenTake (m+1)
  rw [tk,← List.append_assoc,List.length_append] at l2
  have hXZ:=hbY.trans (hbZ.mono hXY)
  have hsZ:=hbZ.size
  refine zgR (E:=zaG) (T:=5) (B:=X.heap.size) (l:=vals++(p.threads.take m).flatMap g) (news:=g p.threads[m]) (cap:=k1) (m:=(g p.threads[m]).length) Tryz.underlying65 (ttOk.get 5 _ rfl) rfl rfl rfl (o1.below hbZ) rfl o2.row (fun e=>by
   rcases o2.inv with ⟨_,h,_⟩ | ⟨g',_,h,_⟩
   ·exact h
   ·rw [e] at h;cases h) (by omega) (by omega) (by show ((vals++(p.threads.take m).flatMap g).length+(g p.threads[m]).length)*1≤_;omega) ?_
  intro q4 k4 U oU gU hbU
  rw [List.append_assoc,← tk] at oU ⊢
  refine⟨((m+1:Nat):Int),(zad (by omega)).trans (by omega),?_⟩
  exact⟨(m+1,q4,k4),(cvE rfl rfl),⟨hmt,oU,hXZ.trans hbU⟩,by show p.threads.length-(m+1)<p.threads.length-m;omega⟩
 ·have hc:¬ (m:Int)<(p.threads.length:Int):=of_decide_eq_false hc
  obtain rfl:m=p.threads.length:=by omega
  rw [List.take_length] at o1 ⊢
  refine Calls.mono (zey o1.row (by rw [List.length_append];omega) r4 r5) ?_
  rintro e Z ⟨⟨q2,k2,rfl,o2⟩,hbZ⟩
  rw [← hnx] at o2 ⊢
  have hXZ:=hbY.trans (hbZ.mono hXY)
  have hwZ:=hbX.trans (hXZ.mono hbX.size)
  refine biE (fun he=>?_) fun he=>?_
  ·have he:(zgp p.threads vals).length=vals.length:=by
    have:=of_decide_eq_true he
    omega
   rw [if_pos he] at hQ
   simp only [Option.some.injEq] at hQ
   subst hQ
   exact⟨⟨q,c,rfl,ho.below hXZ⟩,hwZ⟩
  ·have he:¬ (zgp p.threads vals).length=vals.length:=fun e=>(of_decide_eq_false he) (by rw [e])
   rw [if_neg he] at hQ
   exact⟨(k,zgp p.threads vals,q2,k2),(cvE rfl rfl),⟨hQ,OwnS.lower o2 hwY.size,zab hXZ f0,hwZ⟩,Nat.lt_succ_self k⟩
end
section
variable {w:World} {bP cv B:Nat} {pc:List Value} {qv:Option Addr} {V:List UInt8} {p:Prg}
theorem zlb (fP:w.heap[bP]?=some (.cells pc.toArray 71 (0,0))) (hB:B≤w.heap.size) (hP:PrgX B w pc p) (hil:p.locs.length=p.init.length) (hi6:p.init.length≤6) (hG:GlobE w) (hV:SlR zaG w qv V) (hv1:1≤V.length) (hv12:V.length≤12) (hvs:srt8 V=true) (hd12:(ded V).length≤12)
  (ht4:p.threads.length≤4) (hT:∀ l∈p.threads,ThrQ V l) (hall:∀ k,k≤p.threads.length→zdX ((p.threads.take k).map fun l=>(zay V l).length)≤4096) (hpb:∀ l∈p.threads,∀ P∈zay V l,PathB p.init.length P)
  (hsome:∀ ds∈zdS ((p.threads.map (zay V)).map List.length),(mixR p.init (zdZ (p.threads.map (zay V)) ds)).isSome=true) :
  Calls Tryz.prog 82 #[At0 bP,.slice qv V.length cv] w fun e w'=>(∃ (ms:List MixX) (q:Option Addr) (c:Nat),e = .returned (.tuple #[.slice q ms.length c,.bool true])∧ms.map (·.m)=zlc p.init (p.threads.map (zay V))∧OwnS mixE 119 w.heap.size w' q c ms∧∀ x∈ms,NInM w.heap.size (fun k=>w.heap.size≤k) w' x)∧Below w.heap.size w w':=by
 refine zal (S:=sg 89) (sgOk _) (args:=[At0 bP,.slice qv V.length cv]) (.c .p (.c .p (.s .p (.s .p (.c .p (.c .p (.s .p .p))))))) Tryz.func82 rfl rfl (Nat.le_of_ble_eq_true rfl) rfl ?_
 obtain⟨L,hL⟩:=nm (w.heap.size)
 have hbP:=hlt fP
 refine⟨Unit,fun _=>⟨[(1,.slice qv V.length cv),(2,At0 L),(4,At0 (L+1)),(5,At0 (L+2))],[]⟩,fun _ X=>X.heap[L]?=some (.cells #[.pointer (some ⟨bP,0,none⟩)] 116 (0,0))∧X.heap[L+1]?=some (.cells #[.slice none 0 0] 113 (0,0))∧X.heap[L+2]?=some (.cells #[.bool false] 4 (0,0))∧X.heap.size=L+3∧Below w.heap.size w X,?_,?_⟩
 ·have s1:=World.size_alloc w (.cells #[.pointer (some ⟨bP,0,none⟩)] 116)
  have h2:=hnew (w.alloc (.cells #[.pointer (some ⟨bP,0,none⟩)] 116)) (.cells #[.slice none 0 0] 113)
  have s2:=World.size_alloc (w.alloc (.cells #[.pointer (some ⟨bP,0,none⟩)] 116)) (.cells #[.slice none 0 0] 113)
  have h3:=hnew ((w.alloc (.cells #[.pointer (some ⟨bP,0,none⟩)] 116)).alloc (.cells #[.slice none 0 0] 113)) (.cells #[.bool false] 4)
  have s3:=World.size_alloc ((w.alloc (.cells #[.pointer (some ⟨bP,0,none⟩)] 116)).alloc (.cells #[.slice none 0 0] 113)) (.cells #[.bool false] 4)
  rw [s1] at h2 s2
  rw [s2] at h3 s3
  refine⟨(),⟨.cons rfl (.cons (by rw [hL];rfl) (.cons (by rw [hL,← s1];rfl) (.cons (by rw [hL,← s2];rfl) .nil))),rfl⟩,?_,?_,?_,?_,?_⟩
  ·rw [hL];exact hold _ (hold _ (hnew w _))
  ·rw [hL];exact hold _ h2
  ·rw [hL];exact h3
  ·rw [hL];exact s3
  ·exact (((Below.refl _ w).alloc (Nat.le_refl _) _).alloc (by simp) _).alloc (by simp;omega) _
 rintro _ X ⟨f0,f1,f2,sX,hbX⟩
 refine⟨Unit,fun _=>⟨[(1,.slice qv V.length cv),(2,At0 L),(4,At0 (L+1)),(5,At0 (L+2)),(6,At0 (L+3))],[]⟩,fun _ Y=>MxS w.heap.size Y L bP [] none 0 [] none 0∧Below w.heap.size w Y,?_,?_⟩
 ·refine⟨(),⟨.cons rfl (.cons rfl (.cons rfl (.cons rfl (.cons (by rw [← sX];rfl) .nil)))),rfl⟩,⟨hold _ f0,hold _ f1,hold _ f2,by rw [← sX];exact hnew X _,OwnS.nil,OwnS.nil,fun z hz=>(by cases hz),fun z hz=>(by cases hz)⟩,hbX.alloc hbX.size _⟩
 clear f0 f1 f2 sX hbX
 rintro _ X ⟨hS,hbX⟩
 have hP0:=hP
 obtain⟨_,⟨p3,c3,h3,xs,hxs,hrow,hxr⟩,⟨p2,c2,h2,hinit⟩⟩:=hP
 have hxl:xs.length=p.threads.length:=by rw [← hxs,List.length_map]
 refine⟨(List TpR×Option Addr×Nat)×Option Addr×Nat,fun s=>⟨[(2,At0 L),(4,At0 (L+1)),(5,At0 (L+2)),(6,At0 (L+3)),(7,.slice s.2.1 (p.threads.map fun l=>(zay V l).length).length s.2.2)],[]⟩,fun s Z=>MxS w.heap.size Z L bP (p.threads.map fun l=>(zay V l).length) s.2.1 s.2.2 s.1.1 s.1.2.1 s.1.2.2∧s.1.1.map (fun z=>z.1.map (·.1))=p.threads.map (zay V)∧Below w.heap.size w Z,?_,?_⟩
 ·refine⟨_,zac (zaa hS.f0) (i:=0) rfl,?_⟩
  refine⟨_,zac (zaa (zab hbX fP)) (i:=3) (by simpa using h3),?_⟩
  refine⟨Nat×(List TpR×Option Addr×Nat)×Option Addr×Nat,fun s=>⟨[(1,.slice qv V.length cv),(2,At0 L),(4,At0 (L+1)),(5,At0 (L+2)),(6,At0 (L+3)),(7,.slice s.2.2.1 ((p.threads.take s.1).map fun l=>(zay V l).length).length s.2.2.2),(8,i64 (zdX ((p.threads.take s.1).map fun l=>(zay V l).length):Nat)),(23,.slice p3 p.threads.length c3),(24,i64 p.threads.length),(25,i64 (s.1:Nat))],[]⟩,
   fun s Z=>s.1≤p.threads.length∧MxS w.heap.size Z L bP ((p.threads.take s.1).map fun l=>(zay V l).length) s.2.2.1 s.2.2.2 s.2.1.1 s.2.1.2.1 s.2.1.2.2∧s.2.1.1.map (fun z=>z.1.map (·.1))=(p.threads.take s.1).map (zay V)∧Below w.heap.size w Z,fun s=>p.threads.length-s.1,(0,([],none,0),none,0),
   (cvE rfl rfl),⟨Nat.zero_le _,hS,rfl,hbX⟩,?_⟩
  clear hS hbX
  rintro⟨k,⟨ts,pT,cT⟩,ps,cs⟩ Z ⟨hk,hS,hz,hbZ⟩
  dsimp only at hk hS hz ⊢
  have hts:ts.length=k:=by
   have:=congrArg List.length hz
   rw [List.length_map,List.length_map,List.length_take] at this
   omega
  refine biE (fun hc=>?_) fun hc=>?_
  ·have hc:(k:Int)<(p.threads.length:Int):=of_decide_eq_true hc
   have hkl:k<p.threads.length:=by omega
   have hkx:k<xs.length:=by omega
   have hZs:=hbZ.size
   obtain⟨l,hlk⟩:∃ l,p.threads[k]=l:=⟨_,rfl⟩
   have hlm:l∈p.threads:=by rw [← hlk];exact List.getElem_mem hkl
   have hQ:=hT l hlm
   obtain⟨b3,o3,hp3,hb3,hat3⟩:=zkO (hrow.below (hbZ.mono hB)) hkx
   have hB2:b3<Z.heap.size:=by omega
   have e3:some (Value.slice p3 p.threads.length c3)=some (Value.slice (some ⟨b3,o3,none⟩) p.threads.length c3):=by rw [hp3]
   subst hp3
   refine⟨k,rfl,hkl,?_⟩
   refine⟨thrV xs[k],by have:=zac (hat3 k hkx) (i:=0) (v:=thrV xs[k]) rfl;exact this,?_⟩
   obtain⟨hrm,hrb⟩:=hxr _ (List.getElem_mem hkx)
   have hxm:xs[k].1=l:=by
    have:=congrArg (fun l=>l[k]?) hxs
    simp only [List.getElem?_map,List.getElem?_eq_getElem hkx,List.getElem?_eq_getElem hkl,Option.map_some,Option.some.injEq] at this
    rw [this,hlk]
   have hpt:(p.threads.take (k+1))=p.threads.take k++[l]:=by rw [List.take_succ_eq_append_getElem hkl,hlk]
   refine Calls.mono (zoW (l:=xs[k].1) (vals:=V) ((hrm.below (hbZ.mono hB)).slr (by omega)) (hV.below hbZ) hv1 hv12 hvs (by rw [hxm];exact hQ.ex) (by rw [hxm];exact hQ.ok) (hG.below hbZ) (by rw [hxm];exact zlB hQ.l12 hQ.ex) (by rw [hxm];exact hQ.m) (fun a ha=>by have:=hrb a ha;omega) hd12) ?_
   rintro e Y ⟨⟨rk,pk,ck,rfl,hrk,ork,onk⟩,hbY⟩
   rw [hxm] at hrk
   have hrk:rk.map (·.1)=zay V l:=hrk
   have hrkl:rk.length=(zay V l).length:=by rw [← hrk,List.length_map]
   have hpl:(zay V l).length≤4096:=by rw [List.length_map];exact hQ.m
   have hSY:=hS.below hbY
   have hpr:=hall (k+1) hkl
   have hpr0:=hall k (by omega)
   rw [hpt,List.map_append] at hpr
   have hpr:zdX ((p.threads.take k).map (fun l=>(zay V l).length)++[(zay V l).length])≤4096:=hpr
   rw [zfS,← hrkl] at hpr
   obtain⟨A,hA⟩:=nm (zdX ((p.threads.take k).map fun l=>(zay V l).length))
   have hA2:zdX ((p.threads.take (k+1)).map fun l=>(zay V l).length)=A*rk.length:=by
    rw [hpt,List.map_append]
    show zdX ((p.threads.take k).map (fun l=>(zay V l).length)++[(zay V l).length])=_
    rw [zfS,← hrkl,hA]
   rw [← hA] at hpr hpr0 ⊢
   obtain⟨nz,hnz⟩:∃ nz:TpR,nz=(rk,pk,ck):=⟨_,rfl⟩
   have hen:[Value.slice pk rk.length ck]=tpE.enc nz:=by rw [hnz];rfl
   refine⟨((A*rk.length:Nat):Int),by rw [← Int.natCast_mul];exact zad (by omega),?_⟩
   refine brF ?_
   refine brN (decide_eq_false (by omega)) ?_
   refine⟨_,zac (zaa hSY.f3) (i:=0) rfl,?_⟩
   refine⟨⟨by decide,by decide,rfl⟩,tpE.enc nz,by rw [← hen];rfl,?_⟩
   have hb1:Below Y.heap.size Y (Y.alloc (.cells (tpE.enc nz).toArray 160)):=(Below.refl _ _).alloc (Nat.le_refl _) _
   have hS1:=hSY.below hb1
   have ork1:=ork.below hb1
   have onk1:=fun x hx=>(onk x hx).same (Z:=Y.alloc (.cells (tpE.enc nz).toArray 160)) fun {α E T c q l} _ ho=>ho.below hb1
   unfold opsE zcN
   show SatR _ _
   refine appT hS1.rk (zbd tpE nz) (by have:=hb1.size;have:=hbY.size;omega) (by omega) fun p' c' U oU gU hat1=>?_
   have f0U:=zaL hS1.f0 hS1.rk (by decide) gU
   have f1U:=zaL hS1.f1 hS1.rk (by decide) gU
   have f2U:=zaL hS1.f2 hS1.rk (by decide) gU
   have f3U:=zaL hS1.f3 hS1.rk (by decide) gU
   refine zan (ttOk.get 159 _ rfl) f3U (o:=0) (v := .slice p' (ts++[nz]).length c') rfl rfl (by show 0<1;decide) rfl fun S fS gS sS=>?_
   have hbZY:=hbZ.trans (hbY.mono hZs)
   have sY:=hbY.size
   have sb1:=hb1.size
   have hbU:Below w.heap.size w U:=(hbZY.trans (hb1.mono (by omega))).trans (za4 hS1.rk (by omega) (Nat.le_refl _) gU)
   have hbS:Below w.heap.size w S:=hbU.trans (zam gS hbU.size (by omega))
   have hSS:MxS w.heap.size S L bP ((p.threads.take k).map fun l=>(zay V l).length) ps cs (ts++[nz]) p' c':=by
    have kU:∀ {α:Type} {E:Enc α} {T cc:Nat} {r:Option Addr} {ll:List α},T≠160→T≠159→OwnS E T w.heap.size (Y.alloc (.cells (tpE.enc nz).toArray 160)) r cc ll→OwnS E T w.heap.size S r cc ll:=fun {α E T cc r ll} h1 h2 h=>zaO (zbJ h hS1.rk h1 gU) f3U h2 gS
    have kB:∀ {b:Nat} {o:Obj},b≠L+3→U.heap[b]?=some o→S.heap[b]?=some o:=fun {b o} hb h=>(gS.block b (hlt h) (by simpa using hb)).trans h
    have kP:∀ x:PthR,PthO w.heap.size (Y.alloc (.cells (tpE.enc nz).toArray 160)) x→PthO w.heap.size S x:=fun x hx=>hx.same fun {α E T c q l} ht ho=>kU (by rcases ht with rfl | rfl <;> decide) (by rcases ht with rfl | rfl <;> decide) ho
    refine⟨kB (by omega) f0U,kB (by omega) f1U,kB (by omega) f2U,fS,kU (by decide) (by decide) hS1.own,zaO oU f3U (by decide) gS,fun z hz=>?_,fun z hz=>?_⟩
    ·rcases List.mem_append.1 hz with hz | hz
     ·exact kU (by decide) (by decide) (hS1.n1 z hz)
     ·rw [List.mem_singleton.1 hz,hnz]
      exact kU (by decide) (by decide) (ork1.lower hZs)
    ·rcases List.mem_append.1 hz with hz | hz
     ·exact fun x hx=>kP x (hS1.n2 z hz x hx)
     ·rw [List.mem_singleton.1 hz,hnz]
      exact fun x hx=>kP x ((onk1 x hx).mono hZs)
   clear hS1 ork1 onk1 hSY hS oU gU hat1 f0U f1U f2U f3U fS gS
   refine⟨⟨by decide,by decide,rfl⟩,natE.enc rk.length,rfl,?_⟩
   have hb2:Below S.heap.size S (S.alloc (.cells (natE.enc rk.length).toArray 3)):=(Below.refl _ _).alloc (Nat.le_refl _) _
   have hS2:=hSS.below hb2
   have sbS:=hbS.size
   have sb2:=hb2.size
   unfold opsE zcN
   show SatR _ _
   refine appI hS2.own (zbd natE rk.length) (by omega) (by rw [List.length_map,List.length_take];omega) fun p2' c2' V' oV gV hat2=>?_
   rw [zcq] at gV
   have hSV:=hS2.size oV gV
   have hzz:((p.threads.take k).map fun l=>(zay V l).length)++[rk.length]=(p.threads.take (k+1)).map fun l=>(zay V l).length:=by
    rw [hpt,List.map_append,hrkl];rfl
   rw [hzz] at hSV ⊢
   refine⟨((k+1:Nat):Int),(zad (by omega)).trans (by omega),?_⟩
   refine⟨(k+1,(ts++[nz],p',c'),p2',c2'),⟨.cons rfl (.cons rfl (.cons rfl (.cons rfl (.cons rfl (.cons rfl (.cons (by show _=some (i64 (zdX ((p.threads.take (k+1)).map fun l=>(zay V l).length):Nat));rw [hA2];rfl) (.cons rfl (.cons rfl (.cons rfl .nil))))))))),rfl⟩,⟨hkl,hSV,?_,hbS.trans ((hb2.mono sbS).trans (za4 hS2.own (by omega) (Nat.le_refl _) gV))⟩,by show p.threads.length-(k+1)<p.threads.length-k;omega⟩
   rw [hpt,List.map_append,List.map_append,hz,hnz]
   show _++[rk.map (·.1)]=_++[zay V l]
   rw [hrk]
  ·have hc:¬ (k:Int)<(p.threads.length:Int):=of_decide_eq_false hc
   obtain rfl:k=p.threads.length:=by omega
   rw [List.take_length] at hz hS ⊢
   exact⟨((ts,pT,cT),ps,cs),(cvE rfl rfl),hS,hz,hbZ⟩
 rintro⟨⟨ts,pT,cT⟩,ps,cs⟩ X ⟨hS,hz,hbX⟩
 dsimp only at hS hz ⊢
 obtain⟨Q,hQ⟩:=nm (X.heap.size)
 refine⟨Unit,fun _=>⟨[(2,At0 L),(4,At0 (L+1)),(5,At0 (L+2)),(6,At0 (L+3)),(7,.slice ps (p.threads.map fun l=>(zay V l).length).length cs),(13,At0 Q)],[]⟩,fun _ Z=>MxS w.heap.size Z L bP (p.threads.map fun l=>(zay V l).length) ps cs ts pT cT∧Z.heap[Q]?=some (.cells #[.slice none 0 0] 113 (0,0))∧Z.heap.size=Q+1∧Below w.heap.size w Z,?_,?_⟩
 ·refine⟨(),⟨.cons rfl (.cons rfl (.cons rfl (.cons rfl (.cons rfl (.cons (by rw [hQ];rfl) .nil))))),rfl⟩,hS.below ((Below.refl _ X).alloc (Nat.le_refl _) _),by rw [hQ];exact hnew X _,by rw [hQ];exact World.size_alloc _ _,hbX.alloc hbX.size _⟩
 have hQw:w.heap.size+4≤Q:=by have:=hlt hS.f3;omega
 clear hS hbX hQ
 clear X
 rintro _ X ⟨hS,fQ,sX,hbX⟩
 obtain⟨Ts,hTs⟩:=nm (p.threads.map (zay V))
 have hTl:Ts.length=p.threads.length:=by rw [hTs,List.length_map]
 have htl:ts.length=p.threads.length:=by have:=congrArg List.length hz;simpa using this
 have hsz:(p.threads.map fun l=>(zay V l).length)=Ts.map List.length:=by rw [hTs,List.map_map];rfl
 rw [hsz] at hS ⊢
 rw [← hTs] at hsome hz ⊢
 have hsl1:(Ts.map List.length).length≤1000:=by rw [List.length_map];omega
 have hsl2:∀ n∈Ts.map List.length,n≤1000000:=fun n hn=>by
  rw [hTs,List.map_map] at hn
  obtain⟨l,hl,rfl⟩:=List.mem_map.1 hn
  have:=(hT l hl).m
  show ((zct l (ded V)).map zen).length≤_
  rw [List.length_map]
  omega
 have hmemT:∀ z∈ts,∀ x∈z.1,PathB p.init.length x.1:=fun z hz' x hx=>by
  have h1:z.1.map (·.1)∈Ts:=by rw [← hz];exact List.mem_map.2 ⟨z,hz',rfl⟩
  rw [hTs] at h1
  obtain⟨l,hl,he⟩:=List.mem_map.1 h1
  exact hpb l hl x.1 (by rw [he];exact List.mem_map.2 ⟨x,hx,rfl⟩)
 refine Calls.mono znj ?_
 rintro e V1 ⟨rfl,fo,sV1,hbV1⟩
 have hI:=zps fo (hS.own.row.below hbV1) (fun a ha=>by have:=(zaq hS.own ha).2.1;omega) hsl1 hsl2
 have hS1:=hS.below hbV1
 have hb1:Below w.heap.size w V1:=hbX.trans (hbV1.mono hbX.size)
 have hG0:Gath mixE 119 113 Q V1.heap.size Q V1 (NInM w.heap.size) [] (fun k=>k=Q) V1 :=
  ⟨Nat.le_refl _,rfl,fun k hk=>by omega,⟨none,0,zab hbV1 fQ,OwnS.nil,fun a h=>by cases h⟩,fun x hx=>(by cases hx),Below.refl _ _⟩
 obtain⟨f,hf⟩:∃ f:List Nat→Option MixD,f=fun ds=>mixR p.init (zdZ Ts ds):=⟨_,rfl⟩
 have hmix:zlc p.init Ts=(zdS (Ts.map List.length)).filterMap f:=by rw [hf];rfl
 refine zeD (sgOk _) rfl (lb := #[At0 X.heap.size]) rfl rfl hI (Nat.le_refl _) (fun k hk=>⟨?_,rfl⟩) (fun pre vs W ⟨l,q,_,h,_⟩=>by rw [h];rfl) (by decide)
  (fun k=>k=Q) (fun pre F Y=>∃ ms,(ms.map (·.m)=pre.filterMap f∧ms.length≤pre.length)∧Gath mixE 119 113 Q V1.heap.size Q V1 (NInM w.heap.size) ms F Y) (fun _ _ _ _=>False) (fun k hk=>?_) (Gath.iter (zhs _) (by omega)) (fun ex=>⟨fun _ _ _ _ h=>h.elim,fun _ _ _ _ h=>h.elim⟩) ⟨[],⟨rfl,Nat.zero_le _⟩,hG0⟩ ?_ ?_ ?_
 ·rcases hk with (rfl | ⟨a,ha,rfl⟩) | h
  ·omega
  ·have:=(zaq hS.own ha).2.1;omega
  ·exact h.elim
 ·rcases hk with rfl | ⟨a,ha,rfl⟩
  ·omega
  ·obtain⟨_,_,cur,hc⟩:=zaq hS.own ha
   intro e
   rw [e,fQ] at hc
   simp at hc
 ·rintro yl pre ds vs F Y hyl hpre hJ0 ⟨l,qd,hlast,rfl,hsl,hcel⟩ hfy ⟨lo,hlo⟩
  have hdx:ds=l:=by simpa using hlast
  subst hdx
  refine⟨rfl,F,KeepsG.refl _ _,hJ0,?_⟩
  rintro O Y2 hY2 ⟨ms,⟨hms,hml⟩,hG2⟩
  have hslY:SlR natE Y2 qd ds:=by
   rw [hY2]
   refine za2 hsl fun a ha=>zai fun e=>?_
   obtain⟨cur,hcur⟩:=hcel a ha
   rw [e,hlo] at hcur
   cases hcur
  obtain⟨hdl,hdlt⟩:=zlH (hpre.subset (List.mem_append_right _ (List.mem_singleton.2 rfl)))
  have hsome1:=hsome ds (hpre.subset (List.mem_append_right _ (List.mem_singleton.2 rfl)))
  rw [List.length_map] at hdl
  have hY2s:=hG2.size
  have old:∀ {k:Nat} {ob:Obj},k<Q→V1.heap[k]?=some ob→Y2.heap[k]?=some ob:=fun {k ob} hk h=>(hG2.old.block k hk).trans h
  have g0:=old (by omega) hS1.f0
  have g3:=old (by omega) hS1.f3
  have kR:∀ {α:Type} {E:Enc α} {T cc:Nat} {r:Option Addr} {ll:List α},T≠113→OwnS E T w.heap.size X r cc ll→OwnS E T w.heap.size Y2 r cc ll:=fun {α E T cc r ll} hT h=>h.same fun a ha=>by
   have hq:a.block≠Q:=fun e=>by
    obtain⟨_,_,cur,hc⟩:=zaq h ha
    rw [e,fQ] at hc
    simp at hc
    exact hT hc.2.symm
   have:=(zaq h ha).2.1
   exact (hG2.old.block _ (by omega)).trans (hbV1.block _ this)
  have rkY:=kR (by decide) hS.rk
  have n1Y:=fun z hz=>kR (by decide) (hS.n1 z hz)
  have n2Y:∀ z∈ts,∀ x∈z.1,PthO w.heap.size Y2 x:=fun z hz x hx=>(hS.n2 z hz x hx).same fun {α E T c q l} ht ho=>kR (by rcases ht with rfl | rfl <;> decide) ho
  have fPY:Y2.heap[bP]?=some (.cells pc.toArray 71 (0,0)):=old (by omega) ((hb1.block bP hbP).trans fP)
  have hbwY:Below w.heap.size w Y2:=hb1.trans (hG2.old.mono (by omega))
  refine⟨Nat×List PthR×Option Addr×Nat,fun s=>⟨[(2,At0 L),(6,At0 (L+3)),(13,At0 Q),(15,.slice s.2.2.1 s.2.1.length s.2.2.2),(58,.slice qd ds.length ds.length),(59,i64 ds.length),(60,i64 (s.1:Nat))],[]⟩,
   fun s Z=>s.1≤ds.length∧OwnS pthE 168 Y2.heap.size Z s.2.2.1 s.2.2.2 s.2.1∧s.2.1.map (·.1)=zdZ (Ts.take s.1) (ds.take s.1)∧s.2.1.length=s.1∧(∀ x∈s.2.1,∃ z∈ts,x∈z.1)∧Below Y2.heap.size Y2 Z,fun s=>ds.length-s.1,(0,[],none,0),
   (cvE rfl rfl),⟨Nat.zero_le _,OwnS.nil,by simp [zdZ],rfl,fun x hx=>(by cases hx),Below.refl _ _⟩,?_⟩
  rintro⟨k,Cs,pC,cC⟩ Z ⟨hk,oC,hCs,hCl,hCm,hbZ⟩
  dsimp only at hk oC hCs hCl hCm ⊢
  have hZs:=hbZ.size
  refine biE (fun hc=>?_) fun hc=>?_
  ·have hc:(k:Int)<(ds.length:Int):=of_decide_eq_true hc
   have hkl:k<ds.length:=by omega
   have hkt:k<ts.length:=by omega
   obtain⟨z,hzk⟩:∃ z,ts[k]=z:=⟨_,rfl⟩
   have hzm:z∈ts:=by rw [← hzk];exact List.getElem_mem hkt
   have hkT:k<Ts.length:=by omega
   have hzT:Ts[k]=z.1.map (·.1):=by
    have h1:Ts[k]?=some (z.1.map (·.1)):=by rw [← hz,List.getElem?_map,List.getElem?_eq_getElem hkt,hzk];rfl
    rw [List.getElem?_eq_getElem hkT] at h1
    exact Option.some.inj h1
   obtain⟨d,hd⟩:∃ d,ds[k]=d:=⟨_,rfl⟩
   have hdz:d<z.1.length:=by
    have:=hdlt k (Ts[k].length) d (by rw [List.getElem?_map,List.getElem?_eq_getElem hkT];rfl) (by rw [List.getElem?_eq_getElem hkl,hd])
    rw [hzT,List.length_map] at this
    exact this
   obtain⟨x,hx⟩:∃ x,z.1[d]=x:=⟨_,rfl⟩
   have hxm:x∈z.1:=by rw [← hx];exact List.getElem_mem hdz
   have hpick:zdZ (Ts.take (k+1)) (ds.take (k+1))=zdZ (Ts.take k) (ds.take k)++[x.1]:=by
    rw [List.take_succ_eq_append_getElem hkT,List.take_succ_eq_append_getElem hkl,hd,hzT,zfT _ _ _ _ (by rw [List.length_take,List.length_take];omega),List.getElem?_map,List.getElem?_eq_getElem hdz,hx];rfl
   obtain⟨bD,oD,hpD,hlD,hatD⟩:=(hslY.below hbZ).at hkl
   obtain⟨bT,oT,hpT,hlT,hatT⟩:=(rkY.below hbZ).row.at hkt
   obtain⟨bz,oz,hpz,hlz,hatz⟩:=((n1Y z hzm).below hbZ).row.at hdz
   subst hpD
   subst hpT
   refine⟨k,rfl,hkl,?_⟩
   refine⟨i64 d,by have:=zac (hatD k hkl) (i:=0) (v:=i64 d) (by rw [hd];rfl);exact this,?_⟩
   refine⟨_,zac (zaa (zab hbZ g3)) (i:=0) rfl,?_⟩
   refine⟨k,rfl,hkt,?_⟩
   refine⟨.slice z.2.1 z.1.length z.2.2,by have:=zac (hatT k hkt) (i:=0) (v := .slice z.2.1 z.1.length z.2.2) (by rw [hzk];rfl);exact this,?_⟩
   rw [hpz]
   refine⟨d,rfl,hdz,?_⟩
   refine⟨pthE.enc x,pthE.len x,by rw [← hx];exact hatz d hdz,hlz,?_⟩
   refine⟨⟨by decide,by decide,rfl⟩,pthE.enc x,zcy (pthE.len x) rfl,?_⟩
   have hb2:Below Z.heap.size Z (Z.alloc (.cells (pthE.enc x).toArray 168)):=(Below.refl _ _).alloc (Nat.le_refl _) _
   have sb2:=hb2.size
   unfold opsE zcN
   show SatR _ _
   refine appP (oC.below hb2) (zbd pthE x) (by omega) (by omega) fun p' c' U oU gU hat1=>?_
   refine⟨((k+1:Nat):Int),(zad (by omega)).trans (by omega),?_⟩
   refine⟨(k+1,Cs++[x],p',c'),(cvE rfl rfl),⟨hkl,oU,by rw [List.map_append,hCs,hpick];rfl,by rw [List.length_append,hCl];rfl,fun y hy=>?_,hbZ.trans ((hb2.mono hZs).trans (za4 (oC.below hb2) (by omega) (Nat.le_refl _) gU))⟩,by show ds.length-(k+1)<ds.length-k;omega⟩
   rcases List.mem_append.1 hy with hy | hy
   ·exact hCm y hy
   ·rw [List.mem_singleton.1 hy];exact⟨z,hzm,hxm⟩
  have hc:¬ (k:Int)<(ds.length:Int):=of_decide_eq_false hc
  obtain rfl:k=ds.length:=by omega
  rw [List.take_length,List.take_of_length_le (by omega)] at hCs
  obtain⟨q1,k1,q2,k2,q3,k3,q4,k4,hvs,_⟩:=hP0.v.h
  have hpc1:pc[1]?=some (.slice q1 p.init.length k1):=by rw [hvs,← hil];rfl
  have hZw:w.heap.size≤Z.heap.size:=by have:=hbwY.size;omega
  refine⟨_,zac (zaa (zab hbZ g0)) (i:=0) rfl,?_⟩
  obtain⟨mx,hmx⟩:∃ mx,mixR p.init (Cs.map (·.1))=some mx:=by
   rw [hCs]
   exact Option.isSome_iff_exists.1 hsome1
  have hfd:f ds=some mx:=by rw [hf,← hmx,hCs]
  refine Calls.mono (zkd (zab hbZ fPY) hpc1 h2 ((hinit.below ((hbwY.trans (hbZ.mono hbwY.size)).mono hB)).slr (by omega)) hi6 oC.row (fun x hx=>?_) (fun x hx=>?_) (by omega)) ?_
  ·obtain⟨z,hz1,hx1⟩:=hCm x hx
   obtain⟨o1,o2,o3,o4⟩:=n2Y z hz1 x hx1
   refine⟨fun a ha=>?_,(o1.below hbZ).row,(o2.below hbZ).row,(o3.below hbZ).row,(o4.below hbZ).row⟩
   rcases ha with ha | ha | ha
   ·exact (zaq (o2.below hbZ) ha).2.1
   ·exact (zaq (o3.below hbZ) ha).2.1
   ·exact (zaq (o4.below hbZ) ha).2.1
  ·obtain⟨z,hz1,hx1⟩:=hCm x hx
   exact hmemT z hz1 x hx1
  rintro e U ⟨⟨vs,hres⟩,hbU⟩
  rw [hmx] at hres
  obtain⟨rfl,x1,x2,x3,x4,y1,y2,y3,y4,xs',ys',hvs',m1,m2,m3,m4,m5,m6,m7,m8⟩:=hres
  obtain⟨nx,hnx⟩:∃ nx:MixX,nx=⟨mx,x1,y1,x2,y2,x3,y3,x4,y4,xs',ys'⟩:=⟨_,rfl⟩
  have hen:vs=mixE.enc nx:=by rw [hvs',hnx];rfl
  have hvl:vs.length=336:=by rw [hen];exact mixE.len nx
  have hv1:vs.all Value.oneCell'=true:=by rw [hen];exact zi5 nx
  have hUs:=hbU.size
  refine zap (X:=U) (v := .agg vs.toArray) (ttOk.get 119 _ rfl) hvl zbC hv1 fun V' hbV fV sV=>?_
  have fV:V'.heap[U.heap.size]?=some (.cells vs.toArray 119 (0,0)):=fV
  refine brF ?_
  have hbY2V:Below Y2.heap.size Y2 V':=(hbZ.trans (hbU.mono hZs)).trans (hbV.mono (by omega))
  obtain⟨pr,cr,h4,h5,h6⟩:=hG2.row
  refine⟨_,zac (zaa (zab hbY2V h4)) (i:=0) rfl,?_⟩
  refine⟨vs,hvl,zaa fV,hlt fV,?_⟩
  refine⟨⟨by decide,by decide,zbC⟩,mixE.enc nx,by rw [← hen];exact zcy hvl zbC,?_⟩
  have hpl:pre.length<1000000000:=by
   obtain⟨t,ht⟩:=hpre
   have h7:(pre++[ds]++t).length=zaS (Ts.map List.length).reverse:=by
    rw [ht];unfold zdS
    rw [List.length_map,List.length_range]
   have h8:zaS (Ts.map List.length).reverse≤4096:=by
    have h9:=hall p.threads.length (Nat.le_refl _)
    rw [List.take_length,hsz] at h9
    rw [zkX]
    exact h9
   simp only [List.length_append,List.length_cons] at h7
   omega
  have hnw:∀ (G:Nat→Prop) (S:World),(∀ k,Y2.heap.size≤k→k<V'.heap.size→S.heap[k]?=V'.heap[k]?)→(∀ k,Y2.heap.size≤k→k<V'.heap.size→G k)→NInM w.heap.size G S nx:=by
   intro G S hs hg
   have kp:∀ {α:Type} {E:Enc α} {T cc:Nat} {r:Option Addr} {ll:List α},OwnS E T Z.heap.size U r cc ll→RowIn E T w.heap.size G S r cc ll:=fun {α E T cc r ll} h=>by
    have ol:∀ a,r=some a→Y2.heap.size≤a.block∧a.block<V'.heap.size:=fun a ha=>⟨by have:=(zaq h ha).1;omega,by have:=(zaq h ha).2.1;omega⟩
    exact⟨OwnS.lower ((h.below hbV).same fun a ha=>hs _ (ol a ha).1 (ol a ha).2) hZw,fun a ha=>hg _ (ol a ha).1 (ol a ha).2⟩
   rw [hnx]
   exact⟨m3,m6,kp m1,kp m2,kp m4,fun y hy=>kp (m5 y hy),kp m7,fun y hy=>kp (m8 y hy)⟩
  obtain⟨v,Y5,hrun,S,hrun2,F',hG',hK',hFF'⟩:=hG2.step (P:=Tryz.prog) (ty:=113) (cap1:=1) (zhs _) (by decide) Tryz.underlying113 (ttOk.get 119 _ rfl) rfl rfl (by show _=336;exact zbC) (ttOk.get 113 _ rfl) rfl (by omega) (Nat.le_refl _) hbY2V nx (by omega) (by show (ms.length+1)*2488≤_;omega) hnw pr cr h4
  unfold opsE zcN
  refine SatR.mk hrun ?_
  refine SatR.mk hrun2 ?_
  refine⟨F',⟨_,⟨?_,by rw [List.length_append,List.length_append];show ms.length+1≤pre.length+1;omega⟩,hG'⟩,hK'⟩
  rw [List.map_append,List.filterMap_append,hms]
  show _++[nx.m]=_++List.filterMap f [ds]
  rw [show List.filterMap f [ds]=[mx] by rw [List.filterMap_cons,hfd];rfl,hnx]
 ·rintro D F Y hD hfD ⟨ms,⟨hms,hml⟩,hG⟩ hdef
  obtain⟨pr,cr,h4,h5,h6⟩:=hG.row
  have hYs:=hG.size
  have old:∀ {k:Nat} {ob:Obj},k<Q→V1.heap[k]?=some ob→Y.heap[k]?=some ob:=fun {k ob} hk h=>(hG.old.block k hk).trans h
  have g1:=old (by omega) hS1.f1
  have g2:=old (by omega) hS1.f2
  refine⟨_,zac (zaa h4) (i:=0) rfl,?_⟩
  refine zan (ttOk.get 113 _ rfl) g1 (o:=0) (v := .slice pr ms.length cr) rfl rfl (by show 0<1;decide) rfl fun Z1 fZ1 gZ1 sZ1=>?_
  refine zan (ttOk.get 4 _ rfl) ((gZ1.block (L+2) (hlt g2) (by simp)).trans g2) (o:=0) (v := .bool true) rfl rfl (by show 0<1;decide) rfl fun Z2 fZ2 gZ2 sZ2=>?_
  have k2:∀ k,k<Y.heap.size→k≠L+1→k≠L+2→Z2.heap[k]?=Y.heap[k]?:=fun k hk n1 n2=>(gZ2.block k (by rw [sZ1];exact hk) (by simpa using n2)).trans (gZ1.block k hk (by simpa using n1))
  refine⟨_,rfl,(k2 D (hlt hdef) (by omega) (by omega)).trans hdef,?_⟩
  have f2':=(gZ2.block (L+1) (hlt fZ1) (by simp)).trans fZ1
  have kp:∀ a:Addr,a.block≠L+1→a.block≠L+2→F a.block→a.block<Y.heap.size→(Z2.putObj D (.deferred none)).heap[a.block]?=Y.heap[a.block]?:=fun a n1 n2 h2 h3=>(zai fun e=>by rw [← e] at hfD;exact hfD h2).trans (k2 _ h3 n1 n2)
  have hwY:=hb1.trans (hG.old.mono (by omega))
  have b2:=(hwY.trans (zam gZ1 hwY.size (by omega))).trans (zam gZ2 (by have:=hwY.size;omega) (by omega))
  have ne:∀ {α:Type} {E:Enc α} {T B' cc:Nat} {r:Option Addr} {ll:List α},T≠113→T≠4→OwnS E T B' Y r cc ll→∀ a,r=some a→a.block≠L+1∧a.block≠L+2:=fun {α E T B' cc r ll} t1 t2 h a ha=>by
   obtain⟨_,_,cur,hc⟩:=zaq h ha
   refine⟨fun e=>?_,fun e=>?_⟩
   ·rw [e,g1] at hc
    simp at hc
    exact t1 hc.2.symm
   ·rw [e,g2] at hc
    simp at hc
    exact t2 hc.2.symm
  refine⟨.slice pr ms.length cr,zac (zaa ((zai (by omega)).trans f2')) (i:=0) rfl,.bool true,zac (zaa ((zai (by omega)).trans fZ2)) (i:=0) rfl,⟨ms,pr,cr,rfl,by rw [hms,hmix],?_,fun x hx=>?_⟩,zbo b2 (by omega) _⟩
  ·exact OwnS.lower (h5.same fun a ha=>kp a (ne (by decide) (by decide) h5 a ha).1 (ne (by decide) (by decide) h5 a ha).2 (h6 a ha) (zaq h5 ha).2.1) (by omega)
  ·exact (hG.nest x hx).same fun {α E T c q l} t1 t2 t3 hr=>⟨hr.own.same fun a ha=>kp a (ne t2 t3 hr.own a ha).1 (ne t2 t3 hr.own a ha).2 (hr.inF a ha) (zaq hr.own ha).2.1,fun a ha=>(zaq hr.own ha).1⟩
 ·rintro D ex pre F Y hD hfD hpre h
  exact h.elim
end
abbrev za7 (p:Prg) (V:List UInt8):List MixD:=zlc p.init (p.threads.map (zay V))
def zb0 (m:MixD):List ExD:=if cntR m 1=0 then [] else zf8 m
abbrev zbc (p:Prg) (V:List UInt8):List ExD:=(za7 p V).flatMap zb0
structure CandQ (p:Prg) (n:Nat) (V:List UInt8) (most:Nat):Prop where
 ok:zh9 p=true
 il:p.locs.length=p.init.length
 i1:1≤p.init.length
 i6:p.init.length≤6
 is:srt8 p.init=true
 vals:zjD p.threads n (ded p.init)=some V
 v1:1≤V.length
 v12:V.length≤12
 vs:srt8 V=true
 d12:(ded V).length≤12
 t4:p.threads.length≤4
 th:∀ l∈p.threads,ThrQ V l
 all:∀ k,k≤p.threads.length→zdX ((p.threads.take k).map fun l=>(zay V l).length)≤4096
 pb:∀ l∈p.threads,∀ P∈zay V l,PathB p.init.length P
 some:∀ ds∈zdS ((p.threads.map (zay V)).map List.length),(mixR p.init (zdZ (p.threads.map (zay V)) ds)).isSome=true
 ml:(za7 p V).length≤5000
 mb:∀ m∈za7 p V,MixB m
 m20:most≤20000
 cnt:((za7 p V).map fun m=>cntR m 20001).sum≤most
 len:(zbc p V).length≤30000
theorem ziK {l:List Nat} (k:Nat):(l.take k).sum≤l.sum:=by
 have:l.sum=(l.take k).sum+(l.drop k).sum:=by rw [← List.sum_append,List.take_append_drop]
 omega
theorem zlT {m:MixD} {xs ys:List NatL} {lim:Nat} (h1:xs.map (·.1)=m.rs.map (·.2)) (h2:ys.map (·.1)=m.wr):cntF lim (xs.map (·.1)) (ys.map (·.1))=cntR m lim:=by
 rw [h1,h2];rfl
section
variable {w:World} {B n most:Nat} {pc:List Value} {p:Prg} {V:List UInt8}
theorem zgX (hB:B≤w.heap.size) (hP:PrgX B w pc p) (hG:GlobE w) (hQ:CandQ p n V most) :
  Calls Tryz.prog 37 #[.agg pc.toArray,i64 most] w fun e w'=>(∃ (xs:List exE3) (q:Option Addr) (c:Nat),e = .returned (.tuple #[.slice q xs.length c,i64 0])∧xs.map (·.1)=zbc p V∧OwnS exE 34 w.heap.size w' q c xs∧∀ x∈xs,OwnS evE 54 w.heap.size w' x.2.1 x.2.2 x.1.ev)∧Below w.heap.size w w':=by
 refine zal (S:=sg 74) (sgOk _) (args:=[.agg pc.toArray,i64 most]) (.c .p (.s .p (.s .p (.s .p (.c .p (.s .p (.s .p (.c .p (.c .p (.c .p .p)))))))))) Tryz.func37 rfl rfl (Nat.le_of_ble_eq_true rfl) rfl ?_
 obtain⟨L,hL⟩:=nm (w.heap.size)
 have hpc:=hP.v.size
 have hm20:=hQ.m20
 refine⟨Unit,fun _=>⟨[(1,i64 most),(2,At0 L)],[]⟩,fun _ X=>X.heap[L]?=some (.cells pc.toArray 71 (0,0))∧L<X.heap.size∧Below w.heap.size w X,⟨(),⟨.cons rfl (.cons (by rw [hL];rfl) .nil),rfl⟩,by rw [hL];exact hnew w _,by rw [hL];exact hlt (hnew w _),(Below.refl _ w).alloc (Nat.le_refl _) _⟩,?_⟩
 rintro _ X ⟨f0,sX,hbX⟩
 refine brN (decide_eq_false (by omega)) ?_
 refine brN (decide_eq_false (by omega)) ?_
 refine⟨pc,hpc,zaa f0,hlt f0,?_⟩
 refine Calls.mono (ziz (Nat.le_trans hB hbX.size) (hP.v.below (hbX.mono hB)) (hG.c.below hbX)) ?_
 rintro e Y ⟨m,rfl,hm,hbY⟩
 have hm0:m=0:=hm.2 hQ.ok
 subst hm0
 refine brF ?_
 have hwY:=hbX.trans (hbY.mono hbX.size)
 have f0:=zab hbY f0
 refine⟨pc,hpc,zaa f0,hlt f0,?_⟩
 refine Calls.mono (zjx (Nat.le_trans hB hwY.size) (hP.below (hwY.mono hB)) (hG.below hwY) hQ.ok (fun l hl=>(hQ.th l hl).ex) (fun l hl=>(hQ.th l hl).l12) hQ.i1 (by have:=hQ.i6;omega) hQ.is hQ.vals) ?_
 rintro e Z ⟨⟨qv,cv,rfl,oV⟩,hbZ⟩
 refine brF ?_
 have hwZ:=hwY.trans (hbZ.mono hwY.size)
 have f0:=zab hbZ f0
 clear hbX hbY hwY
 obtain⟨V0,hV0⟩:=nm (V)
 refine⟨List MixX×Option Addr×Nat,fun s=>⟨[(1,i64 most),(8,.slice s.2.1 s.1.length s.2.2),(9,.bool true)],[]⟩,fun s U=>s.1.map (·.m)=za7 p V∧OwnS mixE 119 w.heap.size U s.2.1 s.2.2 s.1∧(∀ x∈s.1,NInM w.heap.size (fun k=>w.heap.size≤k) U x)∧Below w.heap.size w U,?_,?_⟩
 ·refine Calls.mono (zlb f0 (Nat.le_trans hB hwZ.size) (hP.below (hwZ.mono hB)) hQ.il hQ.i6 (hG.below hwZ) oV.row hQ.v1 hQ.v12 hQ.vs hQ.d12 hQ.t4 hQ.th hQ.all hQ.pb hQ.some) ?_
  rintro e U ⟨⟨ms,q,c,rfl,hms,oM,nM⟩,hbU⟩
  exact⟨(ms,q,c),(cvE rfl rfl),hms,oM.lower hwZ.size,fun x hx=>(nM x hx).lower hwZ.size,hwZ.trans (hbU.mono hwZ.size)⟩
 clear oV hbZ hwZ f0
 rintro⟨ms,q,c⟩ X ⟨hms,oM,nM,hbX⟩
 dsimp only at hms oM nM ⊢
 refine brF ?_
 have hml:ms.length≤5000:=by have:=hQ.ml;rw [← hms,List.length_map] at this;exact this
 have hmb:∀ x∈ms,MixB x.m:=fun x hx=>hQ.mb x.m (by rw [← hms];exact List.mem_map.2 ⟨x,hx,rfl⟩)
 have hsum:(ms.map fun x=>cntR x.m 20001).sum≤most:=by
  have:=hQ.cnt
  rw [← hms,List.map_map] at this
  exact this
 have htake:∀ k,((ms.take k).map fun x=>cntR x.m 20001).sum≤most:=fun k=>by
  have:=ziK (l:=ms.map fun x=>cntR x.m 20001) k
  rw [← List.map_take] at this
  omega
 obtain⟨tot,htot⟩:=nm ((ms.map fun x=>cntR x.m 20001).sum)
 have cnt:∀ {Z:World} {k lim:Nat} (hk:k<ms.length),OwnS mixE 119 w.heap.size Z q c ms→(∀ x∈ms,NInM w.heap.size (fun k=>w.heap.size≤k) Z x)→1≤lim→lim≤100000→∃ b o,q=some ⟨b,o,none⟩∧Calls Tryz.prog 83 #[.pointer (some ⟨b,o+k*336,none⟩),i64 lim] Z fun e w'=>e = .returned (i64 (cntR ms[k].m lim:Nat))∧Z=w':=fun {Z k lim} hk oM nM h1 h2=>by
  obtain⟨b,o,hq,hb,hat⟩:=oM.row.at hk
  have hx:=nM ms[k] (List.getElem_mem hk)
  have hb1:=hmb ms[k] (List.getElem_mem hk)
  have hxl:ms[k].xs.length=ms[k].m.rs.length:=by have:=congrArg List.length hx.e2;simpa using this
  have hyl:ms[k].ys.length=ms[k].m.wr.length:=by have:=congrArg List.length hx.e3;simpa using this
  refine⟨b,o,hq,?_⟩
  have:=zlP (lim:=lim) (r := .slice ms[k].p1 ms[k].m.rs.length ms[k].c1) (hat k hk) hx.r2.own.row hx.r3.own.row (fun y hy=>?_) (fun y hy=>?_) (by have:=hb1.rl;omega) (by have:=hb1.wl;omega) h1 h2
  ·rw [zlT hx.e2 hx.e3] at this
   exact this
  ·have h3:y.1∈ms[k].m.rs.map (·.2):=by rw [← hx.e2];exact List.mem_map.2 ⟨y,hy,rfl⟩
   obtain⟨r,hr,he⟩:=List.mem_map.1 h3
   rw [← he];exact (hb1.rs r hr).2.1
  ·have h3:y.1∈ms[k].m.wr:=by rw [← hx.e3];exact List.mem_map.2 ⟨y,hy,rfl⟩
   have:=(hb1.wr _ h3).1
   omega
 refine⟨Unit,fun _=>⟨[(8,.slice q ms.length c),(10,i64 tot)],[]⟩,fun _ Z=>X=Z,?_,?_⟩
 ·refine⟨Nat,fun k=>⟨[(1,i64 most),(8,.slice q ms.length c),(10,i64 (((ms.take k).map fun x=>cntR x.m 20001).sum:Nat)),(40,i64 ms.length),(41,i64 (k:Nat))],[]⟩,
   fun k Z=>k≤ms.length∧X=Z,fun k=>ms.length-k,0,(cvE rfl rfl),⟨Nat.zero_le _,rfl⟩,?_⟩
  rintro k _ ⟨hk,rfl⟩
  dsimp only
  refine biE (fun hc=>?_) fun hc=>?_
  ·have hc:(k:Int)<(ms.length:Int):=of_decide_eq_true hc
   have hkl:k<ms.length:=by omega
   obtain⟨b,o,hq,hcall⟩:=cnt (lim:=20001) hkl oM nM (by decide) (by decide)
   have htk:((ms.take (k+1)).map fun x=>cntR x.m 20001).sum=((ms.take k).map fun x=>cntR x.m 20001).sum+cntR ms[k].m 20001:=by
    rw [List.take_succ_eq_append_getElem hkl,List.map_append,List.sum_append]
    show _+(cntR ms[k].m 20001+0)=_
    rw [Nat.add_zero]
   have h1:=htake (k+1)
   subst hq
   refine⟨k,rfl,hkl,?_⟩
   refine Calls.mono hcall ?_
   rintro e _ ⟨rfl,rfl⟩
   refine⟨((((ms.take (k+1)).map fun x=>cntR x.m 20001).sum:Nat):Int),?_,?_⟩
   ·rw [htk,Int.natCast_add]
    exact zad (by omega)
   refine brN (decide_eq_false (by omega)) ?_
   refine⟨((k+1:Nat):Int),(zad (by omega)).trans (by omega),?_⟩
   exact⟨k+1,(cvE rfl rfl),⟨hkl,rfl⟩,by show ms.length-(k+1)<ms.length-k;omega⟩
  ·have hc:¬ (k:Int)<(ms.length:Int):=of_decide_eq_false hc
   obtain rfl:k=ms.length:=by omega
   rw [List.take_length,← htot]
   exact⟨(),(cvE rfl rfl),rfl⟩
 rintro _ _ rfl
 have hXs:=hbX.size
 refine⟨Option Addr×Nat,fun s=>⟨[(8,.slice q ms.length c),(12,.slice s.1 0 s.2)],[]⟩,fun s Z=>OwnS exE 34 X.heap.size Z s.1 s.2 []∧Below X.heap.size X Z,?_,?_⟩
 ·refine zd5 (E:=exE) Tryz.underlying61 (ttOk.get 34 _ rfl) rfl (by show _=333;exact zaF) rfl tot (by show 2416*tot≤_;omega) (by unfold maxLen;omega) fun Z oZ hbZ sZ=>?_
  exact⟨(some ⟨X.heap.size,0,none⟩,tot),(cvE rfl rfl),oZ,hbZ⟩
 rintro⟨p0,c0⟩ Y ⟨oY,hbY⟩
 dsimp only at oY ⊢
 refine⟨List exE3×Option Addr×Nat,fun s=>⟨[(12,.slice s.2.1 s.1.length s.2.2)],[]⟩,fun s Z=>s.1.map (·.1)=zbc p V∧OwnS exE 34 X.heap.size Z s.2.1 s.2.2 s.1∧(∀ x∈s.1,OwnS evE 54 X.heap.size Z x.2.1 x.2.2 x.1.ev)∧Below X.heap.size X Z,?_,?_⟩
 ·refine⟨Nat×List exE3×Option Addr×Nat,fun s=>⟨[(8,.slice q ms.length c),(12,.slice s.2.2.1 s.2.1.length s.2.2.2),(57,i64 ms.length),(58,i64 (s.1:Nat))],[]⟩,
   fun s Z=>s.1≤ms.length∧s.2.1.map (·.1)=(ms.take s.1).flatMap (fun x=>zb0 x.m)∧OwnS exE 34 X.heap.size Z s.2.2.1 s.2.2.2 s.2.1∧(∀ x∈s.2.1,OwnS evE 54 X.heap.size Z x.2.1 x.2.2 x.1.ev)∧Below X.heap.size X Z,fun s=>ms.length-s.1,(0,[],p0,c0),
   (cvE rfl rfl),⟨Nat.zero_le _,rfl,oY,fun x hx=>(by cases hx),hbY⟩,?_⟩
  clear oY hbY
  rintro⟨k,outs,po,co⟩ Z ⟨hk,hou,oZ,nZ,hbZ⟩
  dsimp only at hk hou oZ nZ ⊢
  have hZs:=hbZ.size
  have oMZ:OwnS mixE 119 w.heap.size Z q c ms:=oM.same fun a ha=>hbZ.block _ (zaq oM ha).2.1
  have nMZ:∀ x∈ms,NInM w.heap.size (fun k=>w.heap.size≤k) Z x:=fun x hx=>(nM x hx).same fun {α E T c q l} _ _ _ hr=>⟨hr.own.same fun a ha=>hbZ.block _ (zaq hr.own ha).2.1,hr.inF⟩
  refine biE (fun hc=>?_) fun hc=>?_
  ·have hc:(k:Int)<(ms.length:Int):=of_decide_eq_true hc
   have hkl:k<ms.length:=by omega
   obtain⟨b,o,hq,hcall⟩:=cnt (lim:=1) hkl oMZ nMZ (by decide) (by decide)
   obtain⟨x,hx⟩:∃ x,ms[k]=x:=⟨_,rfl⟩
   have hxm:x∈ms:=by rw [← hx];exact List.getElem_mem hkl
   have htk:(ms.take (k+1)).flatMap (fun x=>zb0 x.m)=(ms.take k).flatMap (fun x=>zb0 x.m)++zb0 x.m:=by
    rw [List.take_succ_eq_append_getElem hkl,List.flatMap_append,hx,List.flatMap_cons,List.flatMap_nil,List.append_nil]
   rw [hx] at hcall
   have hat:zau Z ⟨b,o+k*336,none⟩ (mixC x):=by
    obtain⟨b',o',hq',_,hat⟩:=oMZ.row.at hkl
    rw [hq] at hq'
    have:=hat k hkl
    simp only [Option.some.injEq,Addr.mk.injEq,and_true] at hq'
    rw [← hx,hq'.1,hq'.2]
    exact this
   have hbX2:b<X.heap.size:=(zaq oM hq).2.1
   subst hq
   refine⟨k,rfl,hkl,?_⟩
   refine Calls.mono hcall ?_
   rintro e _ ⟨rfl,rfl⟩
   refine biE (fun h=>?_) fun h=>?_
   ·have h:cntR x.m 1=0:=Int.ofNat.inj (of_decide_eq_true h)
    have hc0:zb0 x.m=[]:=if_pos h
    rw [hc0,List.append_nil] at htk
    refine⟨((k+1:Nat):Int),(zad (by omega)).trans (by omega),?_⟩
    exact⟨(k+1,outs,po,co),(cvE rfl rfl),⟨hkl,by rw [hou,htk],oZ,nZ,hbZ⟩,by show ms.length-(k+1)<ms.length-k;omega⟩
   have h:cntR x.m 1≠0:=fun e=>(of_decide_eq_false h) (by rw [e];rfl)
   have hc1:zb0 x.m=zf8 x.m:=if_neg h
   rw [hc1] at htk
   refine⟨k,rfl,hkl,?_⟩
   refine Calls.mono zoL ?_
   rintro e U ⟨rfl,fU,sU,hbU⟩
   have hxM:=nMZ x hxm
   have hxB:=hmb x hxm
   obtain⟨Rd,hRd⟩:∃ Rd:Nat→Prop,Rd=fun k=>k<X.heap.size∨k=Z.heap.size:=⟨_,rfl⟩
   have ltX:∀ {α:Type} {E:Enc α} {T cc:Nat} {r:Option Addr} {ll:List α},RowIn E T w.heap.size (fun k=>w.heap.size≤k) X r cc ll→∀ a,r=some a→Rd a.block:=fun {α E T cc r ll} h a ha=>by rw [hRd];exact .inl (zaq h.own ha).2.1
   have hX:=nM x hxm
   have hM:MixM Rd U b (o+k*336) x.m x.q x.c x.p1 x.p2 x.p3 x.c1 x.c2 x.c3 x.xs x.ys:=by
    have r:∀ {α:Type} {E:Enc α} {T cc:Nat} {r:Option Addr} {ll:List α},RowIn E T w.heap.size (fun k=>w.heap.size≤k) Z r cc ll→SlR E U r ll:=fun {α E T cc r ll} h=>(h.own.below hbU).row
    refine⟨zag hbU hat,r hxM.ev,fun e=>?_,r hxM.r1,hxM.e2,r hxM.r2,fun y hy=>r (hxM.n2 y hy),hxM.e3,r hxM.r3,fun y hy=>r (hxM.n3 y hy),by rw [hRd];exact .inl hbX2,ltX hX.ev,ltX hX.r1,ltX hX.r2,ltX hX.r3,fun y hy=>ltX (hX.n2 y hy),fun y hy=>ltX (hX.n3 y hy)⟩
    rcases hxM.ev.own.inv with ⟨_,h,_⟩ | ⟨g,cur,h,_⟩
    ·exact h
    ·rw [e] at h;cases h
   have hRl:∀ k,Rd k→k<U.heap.size:=fun k hk=>by
    rw [hRd] at hk
    omega
   have hTU:Tz64M U:=hG.t64.below (hbX.trans ((hbZ.trans (hbU.mono hZs)).mono hXs))
   have htz:=zcl hG.t64
   have hI:=zoM hM fU (by rw [hRd];exact .inr rfl) hRl hTU (by rw [hRd];left;omega) hxB hxB.ev
   have hln:outs.length+(zf8 x.m).length≤30000:=by
    have h2:=hQ.len
    have h3:(zbc p V)=ms.flatMap (fun x=>zb0 x.m):=by
     show (za7 p V).flatMap zb0=_
     rw [← hms,List.flatMap_map]
    rw [h3] at h2
    have h4:ms.flatMap (fun x=>zb0 x.m)=(ms.take (k+1)).flatMap (fun x=>zb0 x.m)++(ms.drop (k+1)).flatMap (fun x=>zb0 x.m):=by rw [← List.flatMap_append,List.take_append_drop]
    rw [h4,htk,← hou,List.length_append,List.length_append,List.length_map] at h2
    omega
   refine Calls.mono (ziD (oZ.below hbU) (fun y hy=>(nZ y hy).below hbU) (by omega) hI (Nat.le_refl _) (fun k hk=>⟨hRl k hk,rfl⟩) (fun k hk=>by rw [hRd] at hk;exact hk) fU (by omega) hln) ?_
   rintro e T ⟨⟨new,pn,cn,rfl,hnew,oT,nT⟩,hbT⟩
   refine⟨((k+1:Nat):Int),(zad (by omega)).trans (by omega),?_⟩
   exact⟨(k+1,outs++new,pn,cn),(cvE rfl rfl),⟨hkl,by rw [List.map_append,hou,hnew,htk],oT,nT,(hbZ.trans (hbU.mono hZs)).trans hbT⟩,by show ms.length-(k+1)<ms.length-k;omega⟩
  ·have hc:¬ (k:Int)<(ms.length:Int):=of_decide_eq_false hc
   obtain rfl:k=ms.length:=by omega
   rw [List.take_length] at hou
   refine⟨(outs,po,co),(cvE rfl rfl),?_,oZ,nZ,hbZ⟩
   rw [hou]
   show ms.flatMap _=(za7 p V).flatMap zb0
   rw [← hms,List.flatMap_map]
 rintro⟨outs,po,co⟩ Z ⟨hou,oZ,nZ,hbZ⟩
 exact⟨⟨outs,po,co,rfl,hou,oZ.lower hXs,fun x hx=>(nZ x hx).lower hXs⟩,hbX.trans (hbZ.mono hXs)⟩
end
def zoo (x:InsD):Bool:=(decide (x.op=1)&&decide (x.dst.toNat<8))||((decide (x.op=2)&&(!x.ar||decide (x.an.toNat<8)))||decide (x.op=7))
theorem zon {x:InsD} (h:zoo x=true):ExOk x:=by
 unfold zoo at h
 simp only [Bool.or_eq_true,Bool.and_eq_true,decide_eq_true_eq,Bool.not_eq_true'] at h
 rcases h with ⟨h1,h2⟩ | ⟨h1,h2⟩ | h1
 ·exact .inl ⟨h1,h2⟩
 ·refine .inr (.inl ⟨h1,fun h=>?_⟩)
  rcases h2 with h2 | h2
  ·rw [h] at h2;cases h2
  ·exact h2
 ·exact .inr (.inr h1)
def znX (locs:Nat) (P:PathD):Bool :=
 decide (P.ev.length≤24)&&((P.ev.all fun e => !(decide (e.k=1)||decide (e.k=2))||decide (e.l.toNat<locs))&&((P.data.all fun p=>decide (p.1<P.ev.length)&&decide (p.2<P.ev.length))&&((P.ctrl.all fun p=>decide (p.1<P.ev.length)&&decide (p.2<P.ev.length))&&((P.rmw.all fun p=>decide (p.1<P.ev.length)&&decide (p.2<P.ev.length)) &&
  (decide (P.data.length≤100000)&&(decide (P.ctrl.length≤100000)&&decide (P.rmw.length≤100000)))))))
theorem zmH {locs:Nat} {P:PathD} (h:znX locs P=true):PathB locs P:=by
 unfold znX at h
 simp only [Bool.and_eq_true,Bool.or_eq_true,decide_eq_true_eq,List.all_eq_true,Bool.not_eq_true',Bool.or_eq_false_iff,decide_eq_false_iff_not] at h
 obtain⟨h1,h2,h3,h4,h5,h6,h7,h8⟩:=h
 refine⟨h1,fun e he hk=>?_,h3,h4,h5,h6,h7,h8⟩
 rcases h2 e he with h | h
 ·rcases hk with hk | hk
  ·exact (h.1 hk).elim
  ·exact (h.2 hk).elim
 ·exact h
def zf9 (p:Prg) (n:Nat) (V:List UInt8) (most:Nat):Bool :=
 zh9 p&&(decide (p.locs.length=p.init.length)&&(decide (1≤p.init.length)&&(decide (p.init.length≤6)&&(srt8 p.init&&(decide (zjD p.threads n (ded p.init)=some V)&&(decide (1≤V.length)&&(decide (V.length≤12)&&(srt8 V&&(decide ((ded V).length≤12)&&(decide (p.threads.length≤4) &&
  ((p.threads.all fun l=>decide (l.length≤12)&&(l.all zoo&&(zbx l 6&&decide ((zct l (ded V)).length≤4096)))) &&
   (((List.range (p.threads.length+1)).all fun k=>decide (zdX ((p.threads.take k).map fun l=>(zay V l).length)≤4096)) &&
    ((p.threads.all fun l=>(zay V l).all (znX p.init.length)) &&
     (((zdS ((p.threads.map (zay V)).map List.length)).all fun ds=>(mixR p.init (zdZ (p.threads.map (zay V)) ds)).isSome) &&
      (decide ((za7 p V).length≤5000)&&((za7 p V).all zn2&&(decide (most≤20000)&&(decide (((za7 p V).map fun m=>cntR m 20001).sum≤most)&&decide ((zbc p V).length≤30000)))))))))))))))))))
theorem zee {p:Prg} {n:Nat} {V:List UInt8} {most:Nat} (h:zf9 p n V most=true):CandQ p n V most:=by
 unfold zf9 at h
 simp only [Bool.and_eq_true,decide_eq_true_eq,List.all_eq_true,List.mem_range] at h
 obtain⟨h1,h2,h3,h4,h5,h6,h7,h8,h9,h10,h11,h12,h13,h14,h15,h16,h17,h18,h19,h20⟩:=h
 exact⟨h1,h2,h3,h4,h5,h6,h7,h8,h9,h10,h11,fun l hl=>⟨(h12 l hl).1,fun x hx=>zon ((h12 l hl).2.1 x hx),(h12 l hl).2.2.1,(h12 l hl).2.2.2⟩,fun k hk=>h13 k (by omega),fun l hl P hP=>zmH (h14 l hl P hP),h15,h16,fun m hm=>zn3 (h17 m hm),h18,h19,h20⟩
def stI (l v m:UInt8):InsD:=⟨2,0,l,false,v,false,0,0,m,0⟩
def ldI (d l m:UInt8):InsD:=⟨1,d,l,false,0,false,0,0,m,0⟩
def zpc (x:ExD) (want:List UInt8):Bool:=(List.range want.length).all fun i=>decide (zqC (i+1) x=(want.getD i 0).toNat)&&(zpA (i+1) x == decide (want.getD i 0=0))
def exvB (x:ExD):Bool:=decide (x.ev.length≤20)&&(wrdB x.po&&(wrdB x.rf&&(wrdB x.co&&(wrdB x.dt&&(wrdB x.ct&&wrdB x.rm)))))
def zng (l:List ExD) (i n:Nat) (want:List UInt8):Bool:=decide (l.length=n)&&(l.all exvB&&zpc (l.getD i (ex0 0)) want)
def onP (ts:List (List InsD)):Prg:=⟨[116],[[120]],[0],ts,1,.mk 0 0 0 0 []⟩
def feI:InsD:=⟨7,0,0,false,0,false,0,0,3,0⟩
def p1P:Prg:=onP [[stI 0 1 0],[ldI 0 0 0]]
def p2P:Prg:=onP [[stI 0 1 0],[stI 0 1 0],[ldI 0 0 0]]
def p3P:Prg:=onP [[ldI 0 0 0,stI 0 1 0]]
def p4P:Prg:=onP [[feI]]
theorem p1_q:zf9 p1P 5 [0,1] 9=true:=by kernel_rfl
theorem p2_q:zf9 p2P 5 [0,1] 9=true:=by kernel_rfl
theorem p3_q:zf9 p3P 5 [0,1] 9=true:=by kernel_rfl
theorem p4_q:zf9 p4P 5 [0] 9=true:=by kernel_rfl
theorem znY:decide (5<((za7 p2P [0,1]).map fun m=>cntR m 20001).sum)=true:=by kernel_rfl
theorem zpr:(zbc p1P [0,1]).length=2:=by kernel_rfl
theorem zpq:(zbc p2P [0,1]).length=6:=by kernel_rfl
theorem zpp:(zbc p3P [0,1]).length=2:=by kernel_rfl
theorem zpo:(zbc p4P [0]).length=1:=by kernel_rfl
abbrev xA:ExD:=(zbc p1P [0,1]).getD 0 (ex0 0)
abbrev yA:ExD:=(zbc p1P [0,1]).getD 1 (ex0 0)
theorem zqj:(decide (xA.ev.length=3)&&(decide (yA.ev.length=3)&&(decide ((evA xA 2).v=0)&&(decide ((evA yA 2).v=1)&&(decide (xA.rf.to 0=4)&&(decide (yA.rf.to 1=4)&&(decide (xA.co.to 0=2)&&(zbI yA.co xA.co&&(decide (xA.mem 0=1)&&(decide (yA.regs 8=1)&&(zbH xA&&(exvB xA&&(!zcG xA yA)))))))))))))=true:=by kernel_rfl
section
variable {w:World}
theorem ze5 {ts:List (List InsD)} {pt:Option Addr} {ct:Nat} (ht:ThrsW w.heap.size w pt ts) (hts:ts.length≤4) (hl:∀ l∈ts,l.length≤1000) :
  Calls Tryz.prog 38 #[i64 1,.slice pt ts.length ct] w fun e w'=>(∃ vs:List Value,e = .returned (.agg vs.toArray)∧PrgX w'.heap.size w' vs (onP ts))∧Below w.heap.size w w':=by
 refine zal (S:=sg 12) (sgOk _) (args:=[i64 1,.slice pt ts.length ct]) (.c .p .p) Tryz.func38 rfl rfl (Nat.le_of_ble_eq_true rfl) rfl ?_
 obtain⟨L,hL⟩:=nm (w.heap.size)
 refine⟨Unit,fun _=>⟨[(0,i64 1),(1,.slice pt ts.length ct),(4,At0 L)],[]⟩,fun _ X=>(∃ cs:Array Value,X.heap[L]?=some (.cells cs 71 (0,0))∧cs.size=10)∧X.heap.size=L+1∧Below w.heap.size w X,⟨(),⟨.cons rfl (.cons rfl (.cons (by rw [hL];rfl) .nil)),rfl⟩,⟨_,by rw [hL];exact hnew w _,rfl⟩,by rw [hL];exact World.size_alloc _ _,(Below.refl _ w).alloc (Nat.le_refl _) _⟩,?_⟩
 rintro _ X ⟨⟨cs,fL,hcs⟩,sX,hbX⟩
 have hba:∀ (A:World) (o:Obj),Below A.heap.size A (A.alloc o):=fun A o=>(Below.refl _ _).alloc (Nat.le_refl _) _
 have dX:Below X.heap.size X X.drew:=(Below.refl _ _).drew
 have fin:∀ {W:World} {bs bi:Nat},Below X.heap.size X W→W.heap[bs]?=some (.cells #[strV [120],strV [121],strV [122],strV [119]] 9 (0,0))→W.heap[bi]?=some (.cells #[u8 0] 5 (0,0))→X.heap.size≤bs→X.heap.size≤bi→∀ {K:World→Prop},
   (∀ Y,(zau Y ⟨L,0,none⟩ (zaY (onP ts) (some ⟨bs,0,none⟩) 4 (some ⟨bi,0,none⟩) 1 pt ct none 0)∧PrgX Y.heap.size Y (zaY (onP ts) (some ⟨bs,0,none⟩) 4 (some ⟨bi,0,none⟩) 1 pt ct none 0) (onP ts)∧Below w.heap.size w Y)→K Y) →
   SatR ((storeVar 71 ⟨L,0,none⟩ (.agg (zaY (onP ts) (some ⟨bs,0,none⟩) 4 (some ⟨bi,0,none⟩) 1 pt ct none 0).toArray)).run Tryz.prog W) fun _ w'=>K w':=by
  intro W bs bi hW gS gI hs hi K k
  have gL:=zab hW fL
  refine zax (v := .agg (zaY (onP ts) (some ⟨bs,0,none⟩) 4 (some ⟨bi,0,none⟩) 1 pt ct none 0).toArray) (ttOk.get 71 _ rfl) gL rfl hcs rfl ?_
  obtain⟨Y,hY⟩:=nm (W.setRow L (Value.agg (zaY (onP ts) (some ⟨bs,0,none⟩) 4 (some ⟨bi,0,none⟩) 1 pt ct none 0).toArray).cells)
  rw [← hY]
  have fY:Y.heap[L]?=some (.cells (zaY (onP ts) (some ⟨bs,0,none⟩) 4 (some ⟨bi,0,none⟩) 1 pt ct none 0).toArray 71 (0,0)):=by rw [hY];exact zat gL
  have oY:∀ k,k≠L→Y.heap[k]?=W.heap[k]?:=fun k hk=>by rw [hY];exact zao hk
  have bY:Below w.heap.size w Y:=by rw [hY];exact zar (hbX.trans (hW.mono hbX.size)) (by omega) _
  have g1:=(oY bs (by omega)).trans gS
  have g2:=(oY bi (by omega)).trans gI
  obtain⟨xs,hxs,hr,hx⟩:=ht
  have sY:=bY.size
  have rI:RowB zaG Y.heap.size Y (some ⟨bi,0,none⟩) [0] := .inr ⟨bi,0,rfl,hlt g2,zaa g2⟩
  have rT:ThrsW Y.heap.size Y pt ts:=⟨xs,hxs,(hr.below bY).mono sY,fun x h=>⟨((hx x h).1.below bY).mono sY,fun a ha=>Nat.lt_of_lt_of_le ((hx x h).2 a ha) sY⟩⟩
  refine k Y ⟨zaa fY,⟨⟨⟨by show 1≤_;decide,by show 1≤_;decide,fun s hs=>?_,by show 1≤_;decide,by show ts.length≤_;omega,fun l h=>by have:=hl l h;omega⟩,some ⟨bs,0,none⟩,4,some ⟨bi,0,none⟩,1,pt,ct,none,0,rfl,?_,rI,?_,?_,?_⟩,⟨pt,ct,rfl,rT⟩,⟨some ⟨bi,0,none⟩,1,rfl,rI⟩⟩,bY⟩
  ·have hs:s=[120]:=by simpa [onP] using hs
   rw [hs];decide
  ·refine .inr ⟨bs,0,rfl,hlt g1,?_⟩
   have h:=zaw (n:=0) (m:=1) (zaa g1)
   exact h
  ·exact⟨xs,hxs,(hr.below bY).mono sY,fun x h=>((hx x h).1.below bY).mono sY⟩
  ·exact .mk none [] (by decide) 0 0 (.inl rfl) (fun _=>none) (fun _=>0) (fun i hi=>by simp at hi) (fun i hi=>by simp at hi)
  ·show 1≤4;decide
 refine DrawE.treeQ [7] (.op 1 (.op 3 (.op 5 (.alt (.op 0 (.op 2 (.op 4 (.op 6 (.op 7 .nil))))) (.op 4 (.op 0 (.op 2 (.op 6 (.op 7 .nil))))))))) (by kernel_rfl) ?_
 refine And.intro ?_ ?_
 ·refine⟨⟨by decide,by decide,rfl⟩,[strV [120],strV [121],strV [122],strV [119]],rfl,?_⟩
  refine⟨hba _ _,?_⟩
  refine⟨1,rfl,by decide,?_⟩
  have b1:=dX.alloc (Nat.le_refl _) (.cells #[strV [120],strV [121],strV [122],strV [119]] 9)
  refine zd4 Tryz.underlying65 (ttOk.get 5 _ rfl) rfl rfl (by decide) 1 (by decide) (by decide) fun Z fZ bZ sZ=>?_
  refine⟨bZ,?_⟩
  refine⟨zaY (onP ts) (some ⟨X.drew.heap.size,0,none⟩) 4 _ 1 pt ct none 0,rfl,?_⟩
  refine fin (b1.trans (bZ.mono b1.size)) (zab bZ (hnew X.drew _)) fZ dX.size b1.size fun Y h=>?_
  exact⟨_,rfl,h.1,⟨_,rfl,h.2.1⟩,h.2.2⟩
 ·refine zd4 Tryz.underlying65 (ttOk.get 5 _ rfl) rfl rfl (by decide) 1 (by decide) (by decide) fun Z fZ bZ sZ=>?_
  refine⟨bZ,?_⟩
  have b1:=dX.trans (bZ.mono dX.size)
  refine⟨⟨by decide,by decide,rfl⟩,[strV [120],strV [121],strV [122],strV [119]],rfl,?_⟩
  refine⟨hba _ _,?_⟩
  refine⟨1,rfl,by decide,?_⟩
  refine⟨zaY (onP ts) (some ⟨Z.heap.size,0,none⟩) 4 _ 1 pt ct none 0,rfl,?_⟩
  refine fin (b1.alloc b1.size _) (hnew Z _) (hold _ fZ) b1.size dX.size fun Y h=>?_
  exact⟨_,rfl,h.1,⟨_,rfl,h.2.1⟩,h.2.2⟩
end
section
variable {w:World} {B n most:Nat} {pc:List Value} {p:Prg} {V:List UInt8}
theorem zhQ {M:Nat} (hB:B≤w.heap.size) (hP:PrgX B w pc p) (hG:GlobE w) (hQ:CandQ p n V M) (hm:most≤20000) (hmany:most<((za7 p V).map fun m=>cntR m 20001).sum) :
  Calls Tryz.prog 37 #[.agg pc.toArray,i64 most] w fun e w'=>e = .returned (.tuple #[.slice none 0 0,i64 5])∧Below w.heap.size w w':=by
 refine zal (S:=sg 74) (sgOk _) (args:=[.agg pc.toArray,i64 most]) (.c .p (.s .p (.s .p (.s .p (.c .p (.s .p (.s .p (.c .p (.c .p (.c .p .p)))))))))) Tryz.func37 rfl rfl (Nat.le_of_ble_eq_true rfl) rfl ?_
 obtain⟨L,hL⟩:=nm (w.heap.size)
 have hpc:=hP.v.size
 have hm20:=hQ.m20
 refine⟨Unit,fun _=>⟨[(1,i64 most),(2,At0 L)],[]⟩,fun _ X=>X.heap[L]?=some (.cells pc.toArray 71 (0,0))∧L<X.heap.size∧Below w.heap.size w X,⟨(),⟨.cons rfl (.cons (by rw [hL];rfl) .nil),rfl⟩,by rw [hL];exact hnew w _,by rw [hL];exact hlt (hnew w _),(Below.refl _ w).alloc (Nat.le_refl _) _⟩,?_⟩
 rintro _ X ⟨f0,sX,hbX⟩
 refine brN (decide_eq_false (by omega)) ?_
 refine brN (decide_eq_false (by omega)) ?_
 refine⟨pc,hpc,zaa f0,hlt f0,?_⟩
 refine Calls.mono (ziz (Nat.le_trans hB hbX.size) (hP.v.below (hbX.mono hB)) (hG.c.below hbX)) ?_
 rintro e Y ⟨m,rfl,hm,hbY⟩
 have hm0:m=0:=hm.2 hQ.ok
 subst hm0
 refine brF ?_
 have hwY:=hbX.trans (hbY.mono hbX.size)
 have f0:=zab hbY f0
 refine⟨pc,hpc,zaa f0,hlt f0,?_⟩
 refine Calls.mono (zjx (Nat.le_trans hB hwY.size) (hP.below (hwY.mono hB)) (hG.below hwY) hQ.ok (fun l hl=>(hQ.th l hl).ex) (fun l hl=>(hQ.th l hl).l12) hQ.i1 (by have:=hQ.i6;omega) hQ.is hQ.vals) ?_
 rintro e Z ⟨⟨qv,cv,rfl,oV⟩,hbZ⟩
 refine brF ?_
 have hwZ:=hwY.trans (hbZ.mono hwY.size)
 have f0:=zab hbZ f0
 clear hbX hbY hwY
 obtain⟨V0,hV0⟩:=nm (V)
 refine⟨List MixX×Option Addr×Nat,fun s=>⟨[(1,i64 most),(8,.slice s.2.1 s.1.length s.2.2),(9,.bool true)],[]⟩,fun s U=>s.1.map (·.m)=za7 p V∧OwnS mixE 119 w.heap.size U s.2.1 s.2.2 s.1∧(∀ x∈s.1,NInM w.heap.size (fun k=>w.heap.size≤k) U x)∧Below w.heap.size w U,?_,?_⟩
 ·refine Calls.mono (zlb f0 (Nat.le_trans hB hwZ.size) (hP.below (hwZ.mono hB)) hQ.il hQ.i6 (hG.below hwZ) oV.row hQ.v1 hQ.v12 hQ.vs hQ.d12 hQ.t4 hQ.th hQ.all hQ.pb hQ.some) ?_
  rintro e U ⟨⟨ms,q,c,rfl,hms,oM,nM⟩,hbU⟩
  exact⟨(ms,q,c),(cvE rfl rfl),hms,oM.lower hwZ.size,fun x hx=>(nM x hx).lower hwZ.size,hwZ.trans (hbU.mono hwZ.size)⟩
 clear oV hbZ hwZ f0
 rintro⟨ms,q,c⟩ X ⟨hms,oM,nM,hbX⟩
 dsimp only at hms oM nM ⊢
 refine brF ?_
 have hml:ms.length≤5000:=by have:=hQ.ml;rw [← hms,List.length_map] at this;exact this
 have hmb:∀ x∈ms,MixB x.m:=fun x hx=>hQ.mb x.m (by rw [← hms];exact List.mem_map.2 ⟨x,hx,rfl⟩)
 have hsum:(ms.map fun x=>cntR x.m 20001).sum≤M:=by
  have:=hQ.cnt
  rw [← hms,List.map_map] at this
  exact this
 have htake:∀ k,((ms.take k).map fun x=>cntR x.m 20001).sum≤M:=fun k=>by
  have:=ziK (l:=ms.map fun x=>cntR x.m 20001) k
  rw [← List.map_take] at this
  omega
 have hmany:most<(ms.map fun x=>cntR x.m 20001).sum:=by
  rw [← hms,List.map_map] at hmany
  exact hmany
 have cnt:∀ {Z:World} {k lim:Nat} (hk:k<ms.length),OwnS mixE 119 w.heap.size Z q c ms→(∀ x∈ms,NInM w.heap.size (fun k=>w.heap.size≤k) Z x)→1≤lim→lim≤100000→∃ b o,q=some ⟨b,o,none⟩∧Calls Tryz.prog 83 #[.pointer (some ⟨b,o+k*336,none⟩),i64 lim] Z fun e w'=>e = .returned (i64 (cntR ms[k].m lim:Nat))∧Z=w':=fun {Z k lim} hk oM nM h1 h2=>by
  obtain⟨b,o,hq,hb,hat⟩:=oM.row.at hk
  have hx:=nM ms[k] (List.getElem_mem hk)
  have hb1:=hmb ms[k] (List.getElem_mem hk)
  have hxl:ms[k].xs.length=ms[k].m.rs.length:=by have:=congrArg List.length hx.e2;simpa using this
  have hyl:ms[k].ys.length=ms[k].m.wr.length:=by have:=congrArg List.length hx.e3;simpa using this
  refine⟨b,o,hq,?_⟩
  have:=zlP (lim:=lim) (r := .slice ms[k].p1 ms[k].m.rs.length ms[k].c1) (hat k hk) hx.r2.own.row hx.r3.own.row (fun y hy=>?_) (fun y hy=>?_) (by have:=hb1.rl;omega) (by have:=hb1.wl;omega) h1 h2
  ·rw [zlT hx.e2 hx.e3] at this
   exact this
  ·have h3:y.1∈ms[k].m.rs.map (·.2):=by rw [← hx.e2];exact List.mem_map.2 ⟨y,hy,rfl⟩
   obtain⟨r,hr,he⟩:=List.mem_map.1 h3
   rw [← he];exact (hb1.rs r hr).2.1
  ·have h3:y.1∈ms[k].m.wr:=by rw [← hx.e3];exact List.mem_map.2 ⟨y,hy,rfl⟩
   have:=(hb1.wr _ h3).1
   omega
 refine⟨Unit,fun _=>⟨[],[]⟩,fun _ Z=>False,?_,?_⟩
 ·refine⟨Nat,fun k=>⟨[(1,i64 most),(8,.slice q ms.length c),(10,i64 (((ms.take k).map fun x=>cntR x.m 20001).sum:Nat)),(40,i64 ms.length),(41,i64 (k:Nat))],[]⟩,
   fun k Z=>k≤ms.length∧((ms.take k).map fun x=>cntR x.m 20001).sum≤most∧X=Z,fun k=>ms.length-k,0,(cvE rfl rfl),⟨Nat.zero_le _,Nat.zero_le _,rfl⟩,?_⟩
  rintro k _ ⟨hk,hle,rfl⟩
  dsimp only
  refine biE (fun hc=>?_) fun hc=>?_
  ·have hc:(k:Int)<(ms.length:Int):=of_decide_eq_true hc
   have hkl:k<ms.length:=by omega
   obtain⟨b,o,hq,hcall⟩:=cnt (lim:=20001) hkl oM nM (by decide) (by decide)
   have htk:((ms.take (k+1)).map fun x=>cntR x.m 20001).sum=((ms.take k).map fun x=>cntR x.m 20001).sum+cntR ms[k].m 20001:=by
    rw [List.take_succ_eq_append_getElem hkl,List.map_append,List.sum_append]
    show _+(cntR ms[k].m 20001+0)=_
    rw [Nat.add_zero]
   have h1:=htake (k+1)
   have h20:=hQ.m20
   subst hq
   refine⟨k,rfl,hkl,?_⟩
   refine Calls.mono hcall ?_
   rintro e _ ⟨rfl,rfl⟩
   refine⟨((((ms.take (k+1)).map fun x=>cntR x.m 20001).sum:Nat):Int),?_,?_⟩
   ·rw [htk,Int.natCast_add]
    exact zad (by omega)
   refine biE (fun h=>?_) fun h=>?_
   ·exact⟨rfl,hbX⟩
   ·have h:¬ (most:Int)<((((ms.take (k+1)).map fun x=>cntR x.m 20001).sum:Nat):Int):=of_decide_eq_false h
    refine⟨((k+1:Nat):Int),(zad (by omega)).trans (by omega),?_⟩
    exact⟨k+1,(cvE rfl rfl),⟨hkl,by omega,rfl⟩,by show ms.length-(k+1)<ms.length-k;omega⟩
  ·have hc:¬ (k:Int)<(ms.length:Int):=of_decide_eq_false hc
   obtain rfl:k=ms.length:=by omega
   rw [List.take_length] at hle
   omega
 rintro _ _ h
 exact h.elim
end
structure FndV (X:World) (F:List ExD) (xs:List exE3) (q:Option Addr):Prop where
 e:xs.map (·.1)=F
 row:SlR exE X q xs
 ev:∀ x∈xs,SlR evE X x.2.1 x.1.ev
theorem FndV.below {X Y:World} {F:List ExD} {xs:List exE3} {q:Option Addr} (h:FndV X F xs q) (hb:Below X.heap.size X Y):FndV Y F xs q:=⟨h.e,h.row.below hb,fun x hx=>(h.ev x hx).below hb⟩
theorem zef {r:RelD} (h:wrdB r=true):WrdR r.to:=by
 unfold wrdB at h
 rw [List.all_eq_true] at h
 exact fun i hi=>of_decide_eq_true (h i (List.mem_range.2 hi))
theorem zlu {X:World} {x:ExD} {q:Option Addr} (h:exvB x=true) (he:SlR evE X q x.ev):ExV X x q:=by
 unfold exvB at h
 simp only [Bool.and_eq_true,decide_eq_true_eq] at h
 obtain⟨h1,h2,h3,h4,h5,h6,h7⟩:=h
 exact⟨he,h1,zef h2,zef h3,zef h4,zef h5,zef h6,zef h7⟩
theorem FndV.at {X:World} {F:List ExD} {xs:List exE3} {q:Option Addr} {i n:Nat} {want:List UInt8} (h:FndV X F xs q) (hs:zng F i n want=true) (hi:i<n):xs.length=n∧∃ (b o:Nat) (y:exE3),q=some ⟨b,o,none⟩∧b<X.heap.size∧zau X ⟨b,o+i*333,none⟩ (exC y.1 y.2.1 y.2.2)∧ExV X y.1 y.2.1∧zpc y.1 want=true∧y.1=F.getD i (ex0 0):=by
 unfold zng at hs
 rw [Bool.and_eq_true,Bool.and_eq_true,decide_eq_true_eq] at hs
 have hl:xs.length=n:=by
  have:=congrArg List.length h.e
  rw [List.length_map] at this
  omega
 have hix:i<xs.length:=by omega
 obtain⟨b,o,hq,hb,hat⟩:=h.row.at hix
 obtain⟨y,hy⟩:∃ y,xs[i]=y:=⟨_,rfl⟩
 have hym:y∈xs:=by rw [← hy];exact List.getElem_mem hix
 have hF:y.1=F.getD i (ex0 0):=by
  rw [← h.e,List.getD_eq_getElem?_getD,List.getElem?_map,List.getElem?_eq_getElem hix,hy];rfl
 have hF2:y.1∈F:=by
  rw [← h.e]
  exact List.mem_map_of_mem hym
 have hatk:=hat i hix
 rw [hy] at hatk
 exact⟨hl,b,o,y,hq,hb,hatk,zlu (List.all_eq_true.1 hs.2.1 _ hF2) (h.ev y hym),by rw [hF];exact hs.2.2,hF⟩
section
variable {w:World}
theorem zeW {r:RelD} {n a:Nat} (hr:WrdR r.to) (hn:r.n=n) (h48:n≤48) (ha:a<48):Calls Tryz.prog 47 #[.agg (relC r).toArray,i64 (a:Nat)] w fun e w'=>e = .returned (i64 (zbA r a:Nat))∧Below w.heap.size w w':=by
 refine zal (S:=sg 20) (sgOk _) (args:=[.agg (relC r).toArray,i64 (a:Nat)]) (.c .p .p) Tryz.func47 rfl rfl (Nat.le_of_ble_eq_true rfl) rfl ?_
 obtain⟨L,hL⟩:=nm (w.heap.size)
 refine⟨Unit,fun _=>⟨[(1,i64 (a:Nat)),(2,At0 L)],[]⟩,fun _ X=>RelH X L r∧Below w.heap.size w X,⟨(),⟨.cons rfl (.cons (by rw [hL];rfl) .nil),rfl⟩,by rw [hL];exact hnew w _,(Below.refl _ w).alloc (Nat.le_refl _) _⟩,?_⟩
 rintro _ X ⟨f,hbX⟩
 have hs:zbA r a=cntQ (fun b=>hasQ r b a) n:=by unfold zbA;rw [hn];rfl
 rw [hs]
 refine⟨Nat,fun b=>⟨[(1,i64 (a:Nat)),(2,At0 L),(5,i64 (cntQ (fun b=>hasQ r b a) b:Nat)),(6,i64 (b:Nat))],[]⟩,fun b Y=>b≤n∧RelH Y L r∧Below w.heap.size w Y,fun b=>n-b,0,(cvE rfl rfl),⟨Nat.zero_le _,f,hbX⟩,?_⟩
 clear f hbX
 clear X
 rintro b X ⟨hb,f,hbX⟩
 dsimp only
 refine⟨i64 r.n,ziR f,?_⟩
 refine biE (fun hc=>?_) fun hc=>?_
 ·have hc:(b:Int)<r.n:=of_decide_eq_true hc
  have hbn:b<n:=by omega
  have hcl:cntQ (fun b=>hasQ r b a) b≤b:=by
   unfold cntQ
   have:=List.length_filter_le (fun b=>hasQ r b a) (List.range b)
   rw [List.length_range] at this
   exact this
  refine⟨relC r,zaf _,zaa f,hlt f,?_⟩
  refine Calls.mono (zbj (a:=b) (d:=a) hr (by omega) (by omega)) ?_
  rintro e Y ⟨rfl,hbY⟩
  have bY:=hbX.trans (hbY.mono hbX.size)
  have f:=zab hbY f
  refine biE (fun h=>?_) fun h=>?_
  ·have h:hasQ r b a=true:=h
   have e1:cntQ (fun b=>hasQ r b a) (b+1)=cntQ (fun b=>hasQ r b a) b+1:=by rw [zaQ,if_pos h]
   refine⟨((cntQ (fun b=>hasQ r b a) (b+1):Nat):Int),(zad (by omega)).trans (by omega),?_⟩
   refine⟨((b+1:Nat):Int),(zad (by omega)).trans (by omega),?_⟩
   exact⟨b+1,(cvE rfl rfl),⟨hbn,f,bY⟩,by show n-(b+1)<n-b;omega⟩
  ·have h:hasQ r b a=false:=h
   have e1:cntQ (fun b=>hasQ r b a) (b+1)=cntQ (fun b=>hasQ r b a) b:=by rw [zaQ,if_neg (by rw [h];decide)];rfl
   refine⟨((b+1:Nat):Int),(zad (by omega)).trans (by omega),?_⟩
   exact⟨b+1,⟨.cons rfl (.cons rfl (.cons (by rw [e1];rfl) (.cons rfl .nil))),rfl⟩,⟨hbn,f,bY⟩,by show n-(b+1)<n-b;omega⟩
 ·have hc:¬ (b:Int)<r.n:=of_decide_eq_false hc
  obtain rfl:b=n:=by omega
  exact⟨rfl,hbX⟩
theorem zgW {r:RelD} {n a:Nat} (hr:WrdR r.to) (hn:r.n=n) (h48:n≤48) (ha:a<48):Calls Tryz.prog 48 #[.agg (relC r).toArray,i64 (a:Nat)] w fun e w'=>e = .returned (i64 (zbN r a:Nat))∧Below w.heap.size w w':=by
 refine zal (S:=sg 20) (sgOk _) (args:=[.agg (relC r).toArray,i64 (a:Nat)]) (.c .p .p) Tryz.func48 rfl rfl (Nat.le_of_ble_eq_true rfl) rfl ?_
 obtain⟨L,hL⟩:=nm (w.heap.size)
 refine⟨Unit,fun _=>⟨[(1,i64 (a:Nat)),(2,At0 L)],[]⟩,fun _ X=>RelH X L r∧Below w.heap.size w X,⟨(),⟨.cons rfl (.cons (by rw [hL];rfl) .nil),rfl⟩,by rw [hL];exact hnew w _,(Below.refl _ w).alloc (Nat.le_refl _) _⟩,?_⟩
 rintro _ X ⟨f,hbX⟩
 have hs:zbN r a=cntQ (fun b=>hasQ r a b) n:=by unfold zbN;rw [hn];rfl
 rw [hs]
 refine⟨Nat,fun b=>⟨[(1,i64 (a:Nat)),(2,At0 L),(5,i64 (cntQ (fun b=>hasQ r a b) b:Nat)),(6,i64 (b:Nat))],[]⟩,fun b Y=>b≤n∧RelH Y L r∧Below w.heap.size w Y,fun b=>n-b,0,(cvE rfl rfl),⟨Nat.zero_le _,f,hbX⟩,?_⟩
 clear f hbX
 clear X
 rintro b X ⟨hb,f,hbX⟩
 dsimp only
 refine⟨i64 r.n,ziR f,?_⟩
 refine biE (fun hc=>?_) fun hc=>?_
 ·have hc:(b:Int)<r.n:=of_decide_eq_true hc
  have hbn:b<n:=by omega
  have hcl:cntQ (fun b=>hasQ r a b) b≤b:=by
   unfold cntQ
   have:=List.length_filter_le (fun b=>hasQ r a b) (List.range b)
   rw [List.length_range] at this
   exact this
  refine⟨relC r,zaf _,zaa f,hlt f,?_⟩
  refine Calls.mono (zbj (a:=a) (d:=b) hr (by omega) (by omega)) ?_
  rintro e Y ⟨rfl,hbY⟩
  have bY:=hbX.trans (hbY.mono hbX.size)
  have f:=zab hbY f
  refine biE (fun h=>?_) fun h=>?_
  ·have h:hasQ r a b=true:=h
   have e1:cntQ (fun b=>hasQ r a b) (b+1)=cntQ (fun b=>hasQ r a b) b+1:=by rw [zaQ,if_pos h]
   refine⟨((cntQ (fun b=>hasQ r a b) (b+1):Nat):Int),(zad (by omega)).trans (by omega),?_⟩
   refine⟨((b+1:Nat):Int),(zad (by omega)).trans (by omega),?_⟩
   exact⟨b+1,(cvE rfl rfl),⟨hbn,f,bY⟩,by show n-(b+1)<n-b;omega⟩
  ·have h:hasQ r a b=false:=h
   have e1:cntQ (fun b=>hasQ r a b) (b+1)=cntQ (fun b=>hasQ r a b) b:=by rw [zaQ,if_neg (by rw [h];decide)];rfl
   refine⟨((b+1:Nat):Int),(zad (by omega)).trans (by omega),?_⟩
   exact⟨b+1,⟨.cons rfl (.cons rfl (.cons (by rw [e1];rfl) (.cons rfl .nil))),rfl⟩,⟨hbn,f,bY⟩,by show n-(b+1)<n-b;omega⟩
 ·have hc:¬ (b:Int)<r.n:=of_decide_eq_false hc
  obtain rfl:b=n:=by omega
  exact⟨rfl,hbX⟩
theorem zgv {x:ExD} {q:Option Addr} {c a loc:Nat} (hv:SlR evE w q x.ev) (ha:a<x.ev.length):Calls Tryz.prog 93 #[.slice q x.ev.length c,i64 (a:Nat),i64 (loc:Nat)] w fun e w'=>e = .returned (.bool (zbM x a loc))∧w=w':=by
 refine zae (S:=sg 23) (sgOk _) (args:=[.slice q x.ev.length c,i64 (a:Nat),i64 (loc:Nat)]) Tryz.func93 rfl rfl (Nat.le_of_ble_eq_true rfl) rfl ?_
 obtain⟨bq,oq,hqe,hb,hat⟩:=zpN hv ha
 subst hqe
 refine⟨a,rfl,ha,?_⟩
 refine⟨u8 (evA x a).k,by have:=zac hat (i:=1) (v:=u8 (evA x a).k) rfl;exact this,?_⟩
 refine biE (fun h=>?_) fun h=>?_
 ·have h:decide ((evA x a).k=2)=true:=(zc5 (x:=(evA x a).k) (y:=2)).symm.trans h
  refine⟨a,rfl,ha,?_⟩
  refine⟨u8 (evA x a).l,by have:=zac hat (i:=2) (v:=u8 (evA x a).l) rfl;exact this,?_⟩
  refine⟨((evA x a).l.toNat:Int),zaE _,?_⟩
  refine⟨rb ?_,rfl⟩
  unfold zbM isW
  rw [h,Bool.true_and]
  exact decide_eq_decide.2 Int.ofNat_inj
 ·have h:decide ((evA x a).k=2)=false:=(zc5 (x:=(evA x a).k) (y:=2)).symm.trans h
  refine⟨rb ?_,rfl⟩
  unfold zbM isW
  rw [h];rfl
end
end Go.Proofs.YtmbghmhjjodgmaaGreatDoor
