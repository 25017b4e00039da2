/- Contracts: the candidate executions of a program. Plain: what is asked of a program, as a check; the law's own programs. Plain: the law's own programs, evaluated. Contracts: events read; relations and events compared; what stands first. Contracts: the events of an execution checked. Plain: bits of relations. Contracts: the sources of the reads checked. Contracts: the size of a set; a short list of numbers sorted by the sizes of rows. Contracts: the writes of a location put in order. Contracts: the coherence order checked. Contracts: the dependencies checked. Contracts: executions checked (cand.Right). Contracts: small functions of the models: pairs, the relation of a closure, unions. Contracts: what the models ask of two events. Contracts: from-reads, what is fenced, what leads to another thread. Plain: the pairs of relations that are built from others; acyclic relations. Plain: a weaker model allows what a stronger one allows, and preserves no more. Plain: what the parts of an execution's relations lead to. Contracts: relations of one thread, of several; of one location; from-reads, as they are told. Contracts: what fences separate. Contracts: the rules of the models. (Printed by tools/gen_rules.py.). -/
import Derived.Test.YtmbghmhjjodgmaaGreatDoorW5
import Derived.Test.YtmbghmhjjodgmaaGreatDoorW1
import Derived.Test.YtmbghmhjjodgmaaGreatDoorW4
set_option linter.unusedSimpArgs false
set_option linter.unusedVariables false
namespace Go.Proofs.YtmbghmhjjodgmaaGreatDoor
open Go.Vc Go.RowKit Go.Sei
abbrev zbz (p:Prg) (V:List UInt8):List MixD:=zk7 p.init (p.threads.map (zaD V))
def zb5 (m:MixD):List ExD:=if cntR m 1=0 then [] else zgf m
abbrev zdd (p:Prg) (V:List UInt8):List ExD:=(zbz p V).flatMap zb5
structure CandQ (p:Prg) (n:Nat) (V:List UInt8) (most:Nat):Prop where
 ok:zh6 p=true
 il:p.locs.length=p.init.length
 i1:1≤p.init.length
 i6:p.init.length≤6
 is:srt8 p.init=true
 vals:zjv p.threads n (ded p.init)=some V
 v1:1≤V.length
 v12:V.length≤12
 vs:srt8 V=true
 d12:(ded V).length≤12
 t4:p.threads.length≤4
 th:∀ l∈p.threads,ThrQ V l
 all:∀ k,k≤p.threads.length→zdW ((p.threads.take k).map fun l=>(zaD V l).length)≤4096
 pb:∀ l∈p.threads,∀ P∈zaD V l,PathB p.init.length P
 some:∀ ds∈zdP ((p.threads.map (zaD V)).map List.length),(mixR p.init (zd1 (p.threads.map (zaD V)) ds)).isSome=true
 ml:(zbz p V).length≤5000
 mb:∀ m∈zbz p V,MixB m
 m20:most≤20000
 cnt:((zbz p V).map fun m=>cntR m 20001).sum≤most
 len:(zdd p V).length≤30000
theorem zmb {l:List Nat} (k:Nat):(l.take k).sum≤l.sum:=by
 have:l.sum=(l.take k).sum+(l.drop k).sum:=by rw [← List.sum_append,List.take_append_drop]
 omega
theorem zoD {m:MixD} {xs ys:List NatL} {lim:Nat} (h1:xs.map (·.1)=m.rs.map (·.2)) (h2:ys.map (·.1)=m.wr):cntF lim (xs.map (·.1)) (ys.map (·.1))=cntR m lim:=by
 rw [h1,h2];rfl
section
variable {w:World} {B n most:Nat} {pc:List Value} {p:Prg} {V:List UInt8}
theorem zo2 (hB:B≤w.heap.size) (hP:PrgX B w pc p) (hG:GlobE w) (hQ:CandQ p n V most) :
  Calls Tryz.prog 37 #[.agg pc.toArray,i64 most] w fun e w'=>(∃ (xs:List exE3) (q:Option Addr) (c:Nat),e = .returned (.tuple #[.slice q xs.length c,i64 0])∧xs.map (·.1)=zdd p V∧OwnS exE 34 w.heap.size w' q c xs∧∀ x∈xs,OwnS evE 54 w.heap.size w' x.2.1 x.2.2 x.1.ev)∧Below w.heap.size w w':=by
 refine zah (S:=sg 74) (sgOk _) (args:=[.agg pc.toArray,i64 most]) (.c .p (.s .p (.s .p (.s .p (.c .p (.s .p (.s .p (.c .p (.c .p (.c .p .p)))))))))) Tryz.func37 rfl rfl (Nat.le_of_ble_eq_true rfl) rfl ?_
 obtain⟨L,hL⟩:=nm (w.heap.size)
 have hpc:=hP.v.size
 have hm20:=hQ.m20
 refine⟨Unit,fun _=>⟨[(1,i64 most),(2,At0 L)],[]⟩,fun _ X=>X.heap[L]?=some (.cells pc.toArray 71 (0,0))∧L<X.heap.size∧Below w.heap.size w X,⟨(),⟨.cons rfl (.cons (by rw [hL];rfl) .nil),rfl⟩,by rw [hL];exact hnew w _,by rw [hL];exact hlt (hnew w _),(Below.refl _ w).alloc (Nat.le_refl _) _⟩,?_⟩
 rintro _ X ⟨f0,sX,hbX⟩
 refine brN (decide_eq_false (by omega)) ?_
 refine brN (decide_eq_false (by omega)) ?_
 refine⟨pc,hpc,zab f0,hlt f0,?_⟩
 refine Calls.mono (zlV (Nat.le_trans hB hbX.size) (hP.v.below (hbX.mono hB)) (hG.c.below hbX)) ?_
 rintro e Y ⟨m,rfl,hm,hbY⟩
 have hm0:m=0:=hm.2 hQ.ok
 subst hm0
 refine brF ?_
 have hwY:=hbX.trans (hbY.mono hbX.size)
 have f0:=zaa hbY f0
 refine⟨pc,hpc,zab f0,hlt f0,?_⟩
 refine Calls.mono (zmV (Nat.le_trans hB hwY.size) (hP.below (hwY.mono hB)) (hG.below hwY) hQ.ok (fun l hl=>(hQ.th l hl).ex) (fun l hl=>(hQ.th l hl).l12) hQ.i1 (by have:=hQ.i6;omega) hQ.is hQ.vals) ?_
 rintro e Z ⟨⟨qv,cv,rfl,oV⟩,hbZ⟩
 refine brF ?_
 have hwZ:=hwY.trans (hbZ.mono hwY.size)
 have f0:=zaa hbZ f0
 clear hbX hbY hwY
 obtain⟨V0,hV0⟩:=nm (V)
 refine⟨List MixX×Option Addr×Nat,fun s=>⟨[(1,i64 most),(8,.slice s.2.1 s.1.length s.2.2),(9,.bool true)],[]⟩,fun s U=>s.1.map (·.m)=zbz p V∧OwnS mixE 119 w.heap.size U s.2.1 s.2.2 s.1∧(∀ x∈s.1,NInM w.heap.size (fun k=>w.heap.size≤k) U x)∧Below w.heap.size w U,?_,?_⟩
 ·refine Calls.mono (zn0 f0 (Nat.le_trans hB hwZ.size) (hP.below (hwZ.mono hB)) hQ.il hQ.i6 (hG.below hwZ) oV.row hQ.v1 hQ.v12 hQ.vs hQ.d12 hQ.t4 hQ.th hQ.all hQ.pb hQ.some) ?_
  rintro e U ⟨⟨ms,q,c,rfl,hms,oM,nM⟩,hbU⟩
  exact⟨(ms,q,c),(cvE rfl rfl),hms,oM.lower hwZ.size,fun x hx=>(nM x hx).lower hwZ.size,hwZ.trans (hbU.mono hwZ.size)⟩
 clear oV hbZ hwZ f0
 rintro⟨ms,q,c⟩ X ⟨hms,oM,nM,hbX⟩
 dsimp only at hms oM nM ⊢
 refine brF ?_
 have hml:ms.length≤5000:=by have:=hQ.ml;rw [← hms,List.length_map] at this;exact this
 have hmb:∀ x∈ms,MixB x.m:=fun x hx=>hQ.mb x.m (by rw [← hms];exact List.mem_map.2 ⟨x,hx,rfl⟩)
 have hsum:(ms.map fun x=>cntR x.m 20001).sum≤most:=by
  have:=hQ.cnt
  rw [← hms,List.map_map] at this
  exact this
 have htake:∀ k,((ms.take k).map fun x=>cntR x.m 20001).sum≤most:=fun k=>by
  have:=zmb (l:=ms.map fun x=>cntR x.m 20001) k
  rw [← List.map_take] at this
  omega
 obtain⟨tot,htot⟩:=nm ((ms.map fun x=>cntR x.m 20001).sum)
 have cnt:∀ {Z:World} {k lim:Nat} (hk:k<ms.length),OwnS mixE 119 w.heap.size Z q c ms→(∀ x∈ms,NInM w.heap.size (fun k=>w.heap.size≤k) Z x)→1≤lim→lim≤100000→∃ b o,q=some ⟨b,o,none⟩∧Calls Tryz.prog 83 #[.pointer (some ⟨b,o+k*336,none⟩),i64 lim] Z fun e w'=>e = .returned (i64 (cntR ms[k].m lim:Nat))∧Z=w':=fun {Z k lim} hk oM nM h1 h2=>by
  obtain⟨b,o,hq,hb,hat⟩:=oM.row.at hk
  have hx:=nM ms[k] (List.getElem_mem hk)
  have hb1:=hmb ms[k] (List.getElem_mem hk)
  have hxl:ms[k].xs.length=ms[k].m.rs.length:=by have:=congrArg List.length hx.e2;simpa using this
  have hyl:ms[k].ys.length=ms[k].m.wr.length:=by have:=congrArg List.length hx.e3;simpa using this
  refine⟨b,o,hq,?_⟩
  have:=zou (lim:=lim) (r := .slice ms[k].p1 ms[k].m.rs.length ms[k].c1) (hat k hk) hx.r2.own.row hx.r3.own.row (fun y hy=>?_) (fun y hy=>?_) (by have:=hb1.rl;omega) (by have:=hb1.wl;omega) h1 h2
  ·rw [zoD hx.e2 hx.e3] at this
   exact this
  ·have h3:y.1∈ms[k].m.rs.map (·.2):=by rw [← hx.e2];exact List.mem_map.2 ⟨y,hy,rfl⟩
   obtain⟨r,hr,he⟩:=List.mem_map.1 h3
   rw [← he];exact (hb1.rs r hr).2.1
  ·have h3:y.1∈ms[k].m.wr:=by rw [← hx.e3];exact List.mem_map.2 ⟨y,hy,rfl⟩
   have:=(hb1.wr _ h3).1
   omega
 refine⟨Unit,fun _=>⟨[(8,.slice q ms.length c),(10,i64 tot)],[]⟩,fun _ Z=>X=Z,?_,?_⟩
 ·refine⟨Nat,fun k=>⟨[(1,i64 most),(8,.slice q ms.length c),(10,i64 (((ms.take k).map fun x=>cntR x.m 20001).sum:Nat)),(40,i64 ms.length),(41,i64 (k:Nat))],[]⟩,
   fun k Z=>k≤ms.length∧X=Z,fun k=>ms.length-k,0,(cvE rfl rfl),⟨Nat.zero_le _,rfl⟩,?_⟩
  rintro k _ ⟨hk,rfl⟩
  dsimp only
  refine biE (fun hc=>?_) fun hc=>?_
  ·have hc:(k:Int)<(ms.length:Int):=of_decide_eq_true hc
   have hkl:k<ms.length:=by omega
   obtain⟨b,o,hq,hcall⟩:=cnt (lim:=20001) hkl oM nM (by decide) (by decide)
   have htk:((ms.take (k+1)).map fun x=>cntR x.m 20001).sum=((ms.take k).map fun x=>cntR x.m 20001).sum+cntR ms[k].m 20001:=by
    rw [List.take_succ_eq_append_getElem hkl,List.map_append,List.sum_append]
    show _+(cntR ms[k].m 20001+0)=_
    rw [Nat.add_zero]
   have h1:=htake (k+1)
   subst hq
   refine⟨k,rfl,hkl,?_⟩
   refine Calls.mono hcall ?_
   rintro e _ ⟨rfl,rfl⟩
   refine⟨((((ms.take (k+1)).map fun x=>cntR x.m 20001).sum:Nat):Int),?_,?_⟩
   ·rw [htk,Int.natCast_add]
    exact zaf (by omega)
   refine brN (decide_eq_false (by omega)) ?_
   refine⟨((k+1:Nat):Int),(zaf (by omega)).trans (by omega),?_⟩
   exact⟨k+1,(cvE rfl rfl),⟨hkl,rfl⟩,by show ms.length-(k+1)<ms.length-k;omega⟩
  ·have hc:¬ (k:Int)<(ms.length:Int):=of_decide_eq_false hc
   obtain rfl:k=ms.length:=by omega
   rw [List.take_length,← htot]
   exact⟨(),(cvE rfl rfl),rfl⟩
 rintro _ _ rfl
 have hXs:=hbX.size
 refine⟨Option Addr×Nat,fun s=>⟨[(8,.slice q ms.length c),(12,.slice s.1 0 s.2)],[]⟩,fun s Z=>OwnS exE 34 X.heap.size Z s.1 s.2 []∧Below X.heap.size X Z,?_,?_⟩
 ·refine zd5 (E:=exE) Tryz.underlying61 (ttOk.get 34 _ rfl) rfl (by show _=333;exact zbn) rfl tot (by show 2416*tot≤_;omega) (by unfold maxLen;omega) fun Z oZ hbZ sZ=>?_
  exact⟨(some ⟨X.heap.size,0,none⟩,tot),(cvE rfl rfl),oZ,hbZ⟩
 rintro⟨p0,c0⟩ Y ⟨oY,hbY⟩
 dsimp only at oY ⊢
 refine⟨List exE3×Option Addr×Nat,fun s=>⟨[(12,.slice s.2.1 s.1.length s.2.2)],[]⟩,fun s Z=>s.1.map (·.1)=zdd p V∧OwnS exE 34 X.heap.size Z s.2.1 s.2.2 s.1∧(∀ x∈s.1,OwnS evE 54 X.heap.size Z x.2.1 x.2.2 x.1.ev)∧Below X.heap.size X Z,?_,?_⟩
 ·refine⟨Nat×List exE3×Option Addr×Nat,fun s=>⟨[(8,.slice q ms.length c),(12,.slice s.2.2.1 s.2.1.length s.2.2.2),(57,i64 ms.length),(58,i64 (s.1:Nat))],[]⟩,
   fun s Z=>s.1≤ms.length∧s.2.1.map (·.1)=(ms.take s.1).flatMap (fun x=>zb5 x.m)∧OwnS exE 34 X.heap.size Z s.2.2.1 s.2.2.2 s.2.1∧(∀ x∈s.2.1,OwnS evE 54 X.heap.size Z x.2.1 x.2.2 x.1.ev)∧Below X.heap.size X Z,fun s=>ms.length-s.1,(0,[],p0,c0),
   (cvE rfl rfl),⟨Nat.zero_le _,rfl,oY,fun x hx=>(by cases hx),hbY⟩,?_⟩
  clear oY hbY
  rintro⟨k,outs,po,co⟩ Z ⟨hk,hou,oZ,nZ,hbZ⟩
  dsimp only at hk hou oZ nZ ⊢
  have hZs:=hbZ.size
  have oMZ:OwnS mixE 119 w.heap.size Z q c ms:=oM.same fun a ha=>hbZ.block _ (zaw oM ha).2.1
  have nMZ:∀ x∈ms,NInM w.heap.size (fun k=>w.heap.size≤k) Z x:=fun x hx=>(nM x hx).same fun {α E T c q l} _ _ _ hr=>⟨hr.own.same fun a ha=>hbZ.block _ (zaw hr.own ha).2.1,hr.inF⟩
  refine biE (fun hc=>?_) fun hc=>?_
  ·have hc:(k:Int)<(ms.length:Int):=of_decide_eq_true hc
   have hkl:k<ms.length:=by omega
   obtain⟨b,o,hq,hcall⟩:=cnt (lim:=1) hkl oMZ nMZ (by decide) (by decide)
   obtain⟨x,hx⟩:∃ x,ms[k]=x:=⟨_,rfl⟩
   have hxm:x∈ms:=by rw [← hx];exact List.getElem_mem hkl
   have htk:(ms.take (k+1)).flatMap (fun x=>zb5 x.m)=(ms.take k).flatMap (fun x=>zb5 x.m)++zb5 x.m:=by
    rw [List.take_succ_eq_append_getElem hkl,List.flatMap_append,hx,List.flatMap_cons,List.flatMap_nil,List.append_nil]
   rw [hx] at hcall
   have hat:zay Z ⟨b,o+k*336,none⟩ (mixC x):=by
    obtain⟨b',o',hq',_,hat⟩:=oMZ.row.at hkl
    rw [hq] at hq'
    have:=hat k hkl
    simp only [Option.some.injEq,Addr.mk.injEq,and_true] at hq'
    rw [← hx,hq'.1,hq'.2]
    exact this
   have hbX2:b<X.heap.size:=(zaw oM hq).2.1
   subst hq
   refine⟨k,rfl,hkl,?_⟩
   refine Calls.mono hcall ?_
   rintro e _ ⟨rfl,rfl⟩
   refine biE (fun h=>?_) fun h=>?_
   ·have h:cntR x.m 1=0:=Int.ofNat.inj (of_decide_eq_true h)
    have hc0:zb5 x.m=[]:=if_pos h
    rw [hc0,List.append_nil] at htk
    refine⟨((k+1:Nat):Int),(zaf (by omega)).trans (by omega),?_⟩
    exact⟨(k+1,outs,po,co),(cvE rfl rfl),⟨hkl,by rw [hou,htk],oZ,nZ,hbZ⟩,by show ms.length-(k+1)<ms.length-k;omega⟩
   have h:cntR x.m 1≠0:=fun e=>(of_decide_eq_false h) (by rw [e];rfl)
   have hc1:zb5 x.m=zgf x.m:=if_neg h
   rw [hc1] at htk
   refine⟨k,rfl,hkl,?_⟩
   refine Calls.mono zoG ?_
   rintro e U ⟨rfl,fU,sU,hbU⟩
   have hxM:=nMZ x hxm
   have hxB:=hmb x hxm
   obtain⟨Rd,hRd⟩:∃ Rd:Nat→Prop,Rd=fun k=>k<X.heap.size∨k=Z.heap.size:=⟨_,rfl⟩
   have ltX:∀ {α:Type} {E:Enc α} {T cc:Nat} {r:Option Addr} {ll:List α},RowIn E T w.heap.size (fun k=>w.heap.size≤k) X r cc ll→∀ a,r=some a→Rd a.block:=fun {α E T cc r ll} h a ha=>by rw [hRd];exact .inl (zaw h.own ha).2.1
   have hX:=nM x hxm
   have hM:MixM Rd U b (o+k*336) x.m x.q x.c x.p1 x.p2 x.p3 x.c1 x.c2 x.c3 x.xs x.ys:=by
    have r:∀ {α:Type} {E:Enc α} {T cc:Nat} {r:Option Addr} {ll:List α},RowIn E T w.heap.size (fun k=>w.heap.size≤k) Z r cc ll→SlR E U r ll:=fun {α E T cc r ll} h=>(h.own.below hbU).row
    refine⟨zaq hbU hat,r hxM.ev,fun e=>?_,r hxM.r1,hxM.e2,r hxM.r2,fun y hy=>r (hxM.n2 y hy),hxM.e3,r hxM.r3,fun y hy=>r (hxM.n3 y hy),by rw [hRd];exact .inl hbX2,ltX hX.ev,ltX hX.r1,ltX hX.r2,ltX hX.r3,fun y hy=>ltX (hX.n2 y hy),fun y hy=>ltX (hX.n3 y hy)⟩
    rcases hxM.ev.own.inv with ⟨_,h,_⟩ | ⟨g,cur,h,_⟩
    ·exact h
    ·rw [e] at h;cases h
   have hRl:∀ k,Rd k→k<U.heap.size:=fun k hk=>by
    rw [hRd] at hk
    omega
   have hTU:Tz64M U:=hG.t64.below (hbX.trans ((hbZ.trans (hbU.mono hZs)).mono hXs))
   have htz:=zbU hG.t64
   have hI:=zoH hM fU (by rw [hRd];exact .inr rfl) hRl hTU (by rw [hRd];left;omega) hxB hxB.ev
   have hln:outs.length+(zgf x.m).length≤30000:=by
    have h2:=hQ.len
    have h3:(zdd p V)=ms.flatMap (fun x=>zb5 x.m):=by
     show (zbz p V).flatMap zb5=_
     rw [← hms,List.flatMap_map]
    rw [h3] at h2
    have h4:ms.flatMap (fun x=>zb5 x.m)=(ms.take (k+1)).flatMap (fun x=>zb5 x.m)++(ms.drop (k+1)).flatMap (fun x=>zb5 x.m):=by rw [← List.flatMap_append,List.take_append_drop]
    rw [h4,htk,← hou,List.length_append,List.length_append,List.length_map] at h2
    omega
   refine Calls.mono (ziA (oZ.below hbU) (fun y hy=>(nZ y hy).below hbU) (by omega) hI (Nat.le_refl _) (fun k hk=>⟨hRl k hk,rfl⟩) (fun k hk=>by rw [hRd] at hk;exact hk) fU (by omega) hln) ?_
   rintro e T ⟨⟨new,pn,cn,rfl,hnew,oT,nT⟩,hbT⟩
   refine⟨((k+1:Nat):Int),(zaf (by omega)).trans (by omega),?_⟩
   exact⟨(k+1,outs++new,pn,cn),(cvE rfl rfl),⟨hkl,by rw [List.map_append,hou,hnew,htk],oT,nT,(hbZ.trans (hbU.mono hZs)).trans hbT⟩,by show ms.length-(k+1)<ms.length-k;omega⟩
  ·have hc:¬ (k:Int)<(ms.length:Int):=of_decide_eq_false hc
   obtain rfl:k=ms.length:=by omega
   rw [List.take_length] at hou
   refine⟨(outs,po,co),(cvE rfl rfl),?_,oZ,nZ,hbZ⟩
   rw [hou]
   show ms.flatMap _=(zbz p V).flatMap zb5
   rw [← hms,List.flatMap_map]
 rintro⟨outs,po,co⟩ Z ⟨hou,oZ,nZ,hbZ⟩
 exact⟨⟨outs,po,co,rfl,hou,oZ.lower hXs,fun x hx=>(nZ x hx).lower hXs⟩,hbX.trans (hbZ.mono hXs)⟩
end
def zol (x:InsD):Bool:=(decide (x.op=1)&&decide (x.dst.toNat<8))||((decide (x.op=2)&&(!x.ar||decide (x.an.toNat<8)))||decide (x.op=7))
theorem zok {x:InsD} (h:zol x=true):ExOk x:=by
 unfold zol at h
 simp only [Bool.or_eq_true,Bool.and_eq_true,decide_eq_true_eq,Bool.not_eq_true'] at h
 rcases h with ⟨h1,h2⟩ | ⟨h1,h2⟩ | h1
 ·exact .inl ⟨h1,h2⟩
 ·refine .inr (.inl ⟨h1,fun h=>?_⟩)
  rcases h2 with h2 | h2
  ·rw [h] at h2;cases h2
  ·exact h2
 ·exact .inr (.inr h1)
def znW (locs:Nat) (P:PathD):Bool :=
 decide (P.ev.length≤24)&&((P.ev.all fun e => !(decide (e.k=1)||decide (e.k=2))||decide (e.l.toNat<locs))&&((P.data.all fun p=>decide (p.1<P.ev.length)&&decide (p.2<P.ev.length))&&((P.ctrl.all fun p=>decide (p.1<P.ev.length)&&decide (p.2<P.ev.length))&&((P.rmw.all fun p=>decide (p.1<P.ev.length)&&decide (p.2<P.ev.length)) &&
  (decide (P.data.length≤100000)&&(decide (P.ctrl.length≤100000)&&decide (P.rmw.length≤100000)))))))
theorem zmq {locs:Nat} {P:PathD} (h:znW locs P=true):PathB locs P:=by
 unfold znW at h
 simp only [Bool.and_eq_true,Bool.or_eq_true,decide_eq_true_eq,List.all_eq_true,Bool.not_eq_true',Bool.or_eq_false_iff,decide_eq_false_iff_not] at h
 obtain⟨h1,h2,h3,h4,h5,h6,h7,h8⟩:=h
 refine⟨h1,fun e he hk=>?_,h3,h4,h5,h6,h7,h8⟩
 rcases h2 e he with h | h
 ·rcases hk with hk | hk
  ·exact (h.1 hk).elim
  ·exact (h.2 hk).elim
 ·exact h
def zgg (p:Prg) (n:Nat) (V:List UInt8) (most:Nat):Bool :=
 zh6 p&&(decide (p.locs.length=p.init.length)&&(decide (1≤p.init.length)&&(decide (p.init.length≤6)&&(srt8 p.init&&(decide (zjv p.threads n (ded p.init)=some V)&&(decide (1≤V.length)&&(decide (V.length≤12)&&(srt8 V&&(decide ((ded V).length≤12)&&(decide (p.threads.length≤4) &&
  ((p.threads.all fun l=>decide (l.length≤12)&&(l.all zol&&(zbC l 6&&decide ((zcx l (ded V)).length≤4096)))) &&
   (((List.range (p.threads.length+1)).all fun k=>decide (zdW ((p.threads.take k).map fun l=>(zaD V l).length)≤4096)) &&
    ((p.threads.all fun l=>(zaD V l).all (znW p.init.length)) &&
     (((zdP ((p.threads.map (zaD V)).map List.length)).all fun ds=>(mixR p.init (zd1 (p.threads.map (zaD V)) ds)).isSome) &&
      (decide ((zbz p V).length≤5000)&&((zbz p V).all zn1&&(decide (most≤20000)&&(decide (((zbz p V).map fun m=>cntR m 20001).sum≤most)&&decide ((zdd p V).length≤30000)))))))))))))))))))
theorem ze2 {p:Prg} {n:Nat} {V:List UInt8} {most:Nat} (h:zgg p n V most=true):CandQ p n V most:=by
 unfold zgg at h
 simp only [Bool.and_eq_true,decide_eq_true_eq,List.all_eq_true,List.mem_range] at h
 obtain⟨h1,h2,h3,h4,h5,h6,h7,h8,h9,h10,h11,h12,h13,h14,h15,h16,h17,h18,h19,h20⟩:=h
 exact⟨h1,h2,h3,h4,h5,h6,h7,h8,h9,h10,h11,fun l hl=>⟨(h12 l hl).1,fun x hx=>zok ((h12 l hl).2.1 x hx),(h12 l hl).2.2.1,(h12 l hl).2.2.2⟩,fun k hk=>h13 k (by omega),fun l hl P hP=>zmq (h14 l hl P hP),h15,h16,fun m hm=>zn2 (h17 m hm),h18,h19,h20⟩
def stI (l v m:UInt8):InsD:=⟨2,0,l,false,v,false,0,0,m,0⟩
def ldI (d l m:UInt8):InsD:=⟨1,d,l,false,0,false,0,0,m,0⟩
def twoP (a b:List InsD):Prg:=⟨[116],[[120],[121]],[0,0],[a,b],1,.mk 0 0 0 0 []⟩
def sbP:Prg:=twoP [stI 0 1 0,ldI 0 1 0] [stI 1 1 0,ldI 0 0 0]
def mpP:Prg:=twoP [stI 0 1 0,stI 1 1 0] [ldI 1 1 0,ldI 0 0 0]
def raP:Prg:=twoP [stI 0 1 0,stI 1 1 2] [ldI 1 1 1,ldI 0 0 0]
def coP:Prg:=twoP [stI 0 1 0,ldI 0 0 0] []
theorem sb_q:zgg sbP 5 [0,1] 50=true:=by kernel_rfl
def zdl (l:List ExD) (a b:UInt8):List ExD:=l.filter fun x=>decide (x.regs 0=a)&&decide (x.regs 8=b)
def zkC (x:ExD) (want:List UInt8):Bool:=(List.range want.length).all fun i=>decide (zhH (i+1) x=(want.getD i 0).toNat)&&(zf9 (i+1) x == decide (want.getD i 0=0))
def exvB (x:ExD):Bool:=decide (x.ev.length≤19)&&(wrdB x.po&&(wrdB x.rf&&(wrdB x.co&&(wrdB x.dt&&(wrdB x.ct&&wrdB x.rm)))))
abbrev sbF:List ExD:=zdl (zdd sbP [0,1]) 0 0
abbrev mpF:List ExD:=zdl (zdd mpP [0,1]) 0 0
abbrev raF:List ExD:=zdl (zdd raP [0,1]) 0 0
abbrev coF:List ExD:=zdl (zdd coP [0,1]) 0 0
def zfW (l:List ExD) (i n:Nat) (want:List UInt8):Bool:=decide (l.length=n)&&(l.all exvB&&zkC (l.getD i (ex0 0)) want)
theorem mp_q:zgg mpP 5 [0,1] 50=true:=by kernel_rfl
theorem ra_q:zgg raP 5 [0,1] 50=true:=by kernel_rfl
theorem co_q:zgg coP 5 [0,1] 50=true:=by kernel_rfl
theorem znD:zfW sbF 0 1 [0,3,0,0,0,0]=true:=by kernel_rfl
theorem znZ:zfW mpF 1 2 [0,3,3,0,0,0]=true:=by kernel_rfl
theorem znQ:zfW raF 1 2 [0,3,3,0,3,0]=true:=by kernel_rfl
theorem zoC:zfW coF 0 1 [1,1,1,1,1,1]=true:=by kernel_rfl
theorem zpo:(mpF.getD 1 (ex0 0)).regs 9=1:=by kernel_rfl
theorem zpe:(raF.getD 1 (ex0 0)).regs 9=1:=by kernel_rfl
structure ExV (w:World) (x:ExD) (q:Option Addr):Prop where
 ev:SlR evE w q x.ev
 n:x.ev.length≤19
 po:WrdR x.po.to
 rf:WrdR x.rf.to
 co:WrdR x.co.to
 dt:WrdR x.dt.to
 ct:WrdR x.ct.to
 rm:WrdR x.rm.to
theorem ExV.below {w w2:World} {x:ExD} {q:Option Addr} (h:ExV w x q) (hb:Below w.heap.size w w2):ExV w2 x q:=⟨h.ev.below hb,h.n,h.po,h.rf,h.co,h.dt,h.ct,h.rm⟩
theorem zdG {w:World} {q:Option Addr} {l:List Ev} (h:SlR evE w q l) {i:Nat} (hi:i<l.length):∃ b o,q=some ⟨b,o,none⟩∧b<w.heap.size∧zay w ⟨b,o+i*7,none⟩ (evE.enc (l.getD i ev0)):=by
 obtain⟨b,o,hq,hb,hat⟩:=h.at hi
 refine⟨b,o,hq,hb,?_⟩
 rw [List.getD_eq_getElem?_getD,List.getElem?_eq_getElem hi]
 exact hat i hi
theorem tU64:TyEq Tryz.prog 24 false 1 1 (fun cs=>∃ x,cs=[.int .u64 x]) := .int Tryz.underlying24 (fun w=>Tryz.isAgg24 w) (zbp (by kernel_rfl) (by kernel_rfl)).1 (by kernel_rfl)
theorem tI64:TyEq Tryz.prog 3 false 1 1 (fun cs=>∃ x,cs=[.int .i64 x]) := .int Tryz.underlying3 (fun w=>Tryz.isAgg3 w) (zbp (by kernel_rfl) (by kernel_rfl)).1 (by kernel_rfl)
theorem zqm:∃ G,TyEq Tryz.prog 25 true 48 2 G∧∀ f:Nat→Nat,G (zcZ f):=by
 refine⟨_,.array (m:=48) (by decide) Tryz.underlying25 (fun w=>Tryz.isAgg25 w) (zbp (by kernel_rfl) (by kernel_rfl)).1 (by kernel_rfl) tU64,fun f i hi=>?_⟩
 refine⟨(f i:Nat),?_⟩
 unfold zbk
 have h:=zdI f hi
 rw [Nat.mul_one]
 have hl:i<(zcZ f).length:=by rw [zcB];exact hi
 rw [← List.getElem_cons_drop hl,List.take_succ_cons,List.take_zero]
 rw [List.getElem?_eq_getElem hl] at h
 rw [Option.some.inj h];rfl
theorem zo7:∃ G,TyEq Tryz.prog 27 true 49 3 G∧∀ r:RelD,G (relC r):=by
 obtain⟨G,h1,h2⟩:=zqm
 refine⟨_,.struct (uf Tryz.underlying27).1 (by kernel_rfl) (fun w=>Tryz.isAgg27 w) (zbp (by kernel_rfl) (by kernel_rfl)).1 (by kernel_rfl)
  (by rw [(uf Tryz.underlying27).2];exact .cons (by decide) rfl (tI64.up 1) (.cons (by decide) rfl h1 .nil)),fun r=>?_⟩
 exact⟨⟨_,rfl⟩,by have:=h2 r.to;have e:((relC r).drop 1).take 48=zcZ r.to:=List.take_of_length_le (by rw [show (relC r).drop 1=zcZ r.to from rfl,zcB];decide);rw [e];exact this,trivial⟩
theorem zg7 {a b:RelD}:relC a=relC b↔zcI a b=true:=by
 unfold zcI
 rw [Bool.and_eq_true,decide_eq_true_eq,List.all_eq_true]
 constructor
 ·intro h
  have h1:i64 a.n=i64 b.n:=List.head_eq_of_cons_eq h
  have h2:zcZ a.to=zcZ b.to:=List.tail_eq_of_cons_eq h
  refine⟨by injection h1,fun i hi=>decide_eq_true ?_⟩
  have hi:=List.mem_range.1 hi
  have h3:=zdI a.to hi
  rw [h2,zdI b.to hi] at h3
  have h4:=Option.some.inj h3
  unfold s64 at h4
  injection h4 with _ h5
  omega
 ·rintro⟨h1,h2⟩
  unfold relC zcZ
  rw [h1]
  congr 1
  refine List.map_congr_left fun i hi=>?_
  rw [of_decide_eq_true (h2 i hi)]
theorem zlp (x y:Operand) (a b:RelD) (w:World):(do eqGuard .eql 27 x y (.agg (relC a).toArray) (.agg (relC b).toArray);binOp .eql 27 (.agg (relC a).toArray) (.agg (relC b).toArray)).run Tryz.prog w = .ok (.bool (zcI a b)) w:=by
 obtain⟨G,h1,h2⟩:=zo7
 have:=zlo h1 9997 rfl (by kernel_rfl) (zad a) (zad b) (h2 a) (h2 b) x y w
 rw [this,zef zg7,Bool.decide_eq_true]
theorem zk5 (x y:Operand) (a b:RelD) (w:World):(do eqGuard .neq 27 x y (.agg (relC a).toArray) (.agg (relC b).toArray);binOp .neq 27 (.agg (relC a).toArray) (.agg (relC b).toArray)).run Tryz.prog w = .ok (.bool (!zcI a b)) w:=by
 obtain⟨G,h1,h2⟩:=zo7
 have:=zna h1 9997 rfl (by kernel_rfl) (zad a) (zad b) (h2 a) (h2 b) x y w
 rw [this,zef zg7,Bool.decide_eq_true]
theorem tEvE:∃ G,TyEq Tryz.prog 54 true 7 2 G∧∀ e:Ev,G (evE.enc e):=by
 refine⟨_,.struct (uf Tryz.underlying54).1 (by kernel_rfl) (fun w=>Tryz.isAgg54 w) (zbp (by kernel_rfl) (by kernel_rfl)).1 (by kernel_rfl)
  (by rw [(uf Tryz.underlying54).2];exact .cons (by decide) rfl tI64 (.cons (by decide) rfl tU8 (.cons (by decide) rfl tU8 (.cons (by decide) rfl tU8 (.cons (by decide) rfl tU8 (.cons (by decide) rfl tU8 (.cons (by decide) rfl tU8 .nil))))))),fun e=>?_⟩
 exact⟨⟨_,rfl⟩,⟨_,rfl⟩,⟨_,rfl⟩,⟨_,rfl⟩,⟨_,rfl⟩,⟨_,rfl⟩,⟨_,rfl⟩,trivial⟩
theorem zln {a b:Ev}:evE.enc a=evE.enc b↔a=b:=by
 constructor
 ·intro h
  obtain⟨a1,a2,a3,a4,a5,a6,a7⟩:=a
  obtain⟨b1,b2,b3,b4,b5,b6,b7⟩:=b
  have h:[i64 a1,u8 a2,u8 a3,u8 a4,u8 a5,u8 a6,u8 a7]=[i64 b1,u8 b2,u8 b3,u8 b4,u8 b5,u8 b6,u8 b7]:=h
  simp only [List.cons.injEq,and_true,u8,Value.int.injEq,true_and,za6] at h
  obtain⟨h1,rfl,rfl,rfl,rfl,rfl,rfl⟩:=h
  have h1:a1=b1:=by injection h1
  rw [h1]
 ·rintro rfl;rfl
theorem zpm (x y:Operand) (a b:Ev) (w:World):(do eqGuard .neq 54 x y (.agg (evE.enc a).toArray) (.agg (evE.enc b).toArray);binOp .neq 54 (.agg (evE.enc a).toArray) (.agg (evE.enc b).toArray)).run Tryz.prog w = .ok (.bool (!decide (a=b))) w:=by
 obtain⟨G,h1,h2⟩:=tEvE
 have:=zna h1 9998 rfl (by kernel_rfl) (a:=evE.enc a) (b:=evE.enc b) rfl rfl (h2 a) (h2 b) x y w
 rw [this,zef zln]
theorem zeu:∀ (ev:List Ev) (k:Nat),(∀ j,j<k→(ev.getD j ev0).th = -1)→k≤ev.length→zcs ev=k+zcs (ev.drop k)
 | ev,0,_,_=>by rw [List.drop_zero,Nat.zero_add]
 | [],k+1,_,h=>by simp at h
 | e::ev,k+1,hj,h=>by
  have h0:e.th = -1:=hj 0 (by omega)
  have ih:=zeu ev k (fun j hjk=>hj (j+1) (by omega)) (by simpa using h)
  unfold zcs at ih ⊢
  rw [List.takeWhile_cons,if_pos (decide_eq_true h0),List.length_cons,ih,List.drop_succ_cons]
  omega
section
variable {q:Option Addr} {c:Nat} {ev:List Ev} {w:World}
theorem zjX (hl:SlR evE w q ev) (hn:ev.length≤1000):Calls Tryz.prog 39 #[.slice q ev.length c] w fun e w'=>e = .returned (i64 (zcs ev:Nat))∧Below w.heap.size w w':=by
 refine zae (S:=sg 19) (sgOk _) (args:=[.slice q ev.length c]) Tryz.func39 rfl rfl (Nat.le_of_ble_eq_true rfl) rfl ?_
 refine⟨Nat,fun k=>⟨[(0,.slice q ev.length c),(5,.slice q ev.length c),(6,i64 ev.length),(7,i64 (k:Nat))],[]⟩,fun k X=>k≤ev.length∧(∀ j,j<k→(ev.getD j ev0).th = -1)∧Below w.heap.size w X,fun k=>ev.length-k,0,(cvE rfl rfl),⟨Nat.zero_le _,fun j h=>by omega,Below.refl _ _⟩,?_⟩
 rintro k X ⟨hk,hj,hbX⟩
 dsimp only
 have hXs:=hbX.size
 refine biE (fun hc=>?_) fun hc=>?_
 ·have hc:(k:Int)<(ev.length:Int):=of_decide_eq_true hc
  have hkl:k<ev.length:=by omega
  obtain⟨b,o,rfl,hb,hat⟩:=zdG (hl.below hbX) hkl
  obtain⟨e,he⟩:=nm (ev.getD k ev0)
  rw [← he] at hat
  refine⟨k,rfl,hkl,?_⟩
  refine⟨evE.enc e,rfl,hat,hb,?_⟩
  refine zap (X:=X) (v := .agg (evE.enc e).toArray) (ttOk.get 54 _ rfl) rfl rfl (List.all_eq_true.2 fun u hu=>evE.one e u hu) fun Y hbY fY sY=>?_
  have fY:Y.heap[X.heap.size]?=some (.cells (evE.enc e).toArray 54 (0,0)):=fY
  refine⟨i64 e.th,zac (zab fY) (i:=0) rfl,?_⟩
  have hbY2:=hbX.trans (hbY.mono hXs)
  refine biE (fun h=>?_) fun h=>?_
  ·have h:(!decide (e.th = -1))=true:=h
   have h:¬ e.th = -1:=by simpa using h
   refine⟨?_,hbY2⟩
   have h2:=zeu ev k hj hk
   have h3:zcs (ev.drop k)=0:=by
    unfold zcs
    have h4:ev[k]=e:=by rw [he,List.getD_eq_getElem?_getD,List.getElem?_eq_getElem hkl];rfl
    rw [← List.getElem_cons_drop hkl,List.takeWhile_cons,h4,if_neg (by simpa using h)];rfl
   rw [h3] at h2
   exact ri (by omega)
  ·have h:(!decide (e.th = -1))=false:=h
   have h:e.th = -1:=by simpa using h
   refine⟨((k+1:Nat):Int),(zaf (by omega)).trans (by omega),?_⟩
   refine⟨k+1,(cvE rfl rfl),⟨hkl,fun j hjk=>?_,hbY2⟩,by show ev.length-(k+1)<ev.length-k;omega⟩
   by_cases e2:j=k
   ·rw [e2,← he];exact h
   ·exact hj j (by omega)
 ·have hc:¬ (k:Int)<(ev.length:Int):=of_decide_eq_false hc
  obtain rfl:k=ev.length:=by omega
  refine⟨?_,hbX⟩
  have h2:=zeu ev ev.length hj (Nat.le_refl _)
  rw [List.drop_length] at h2
  exact ri (by rw [h2];show ((ev.length:Nat):Int)=((ev.length+0:Nat):Int);rfl)
theorem zmQ {i:Nat} {v:UInt8}:zfU (ziV [(0,1,false),(1,1,false),(2,1,false),(3,1,false),(4,1,false),(5,1,false),(6,1,false)]) (evE.enc ev0) [(0,i64 (-1)),(1,u8 2),(2,u8 (UInt8.ofNat i)),(3,u8 v)]=some (evE.enc ⟨-1,2,UInt8.ofNat i,v,0,0,0⟩):=rfl
theorem zgL {locs:Nat} (hl:SlR evE w q ev) (hn:ev.length≤1000) (hlo:locs≤1000):Calls Tryz.prog 40 #[.slice q ev.length c,i64 locs] w fun e w'=>e = .returned (.bool (zbA ev locs))∧Below w.heap.size w w':=by
 refine zae (S:=sg 69) (sgOk _) (args:=[.slice q ev.length c,i64 locs]) Tryz.func40 rfl rfl (Nat.le_of_ble_eq_true rfl) rfl ?_
 refine⟨Nat×Int×Nat,fun s=>⟨[(1,i64 locs),(5,i64 s.2.1),(6,i64 (s.2.2:Nat)),(9,.slice q ev.length c),(10,i64 ev.length),(11,i64 (s.1:Nat))],[]⟩,fun s X=>s.1≤ev.length∧s.2.2≤s.1∧evGo locs s.1 (ev.drop s.1) s.2.1 s.2.2=zbA ev locs∧Below w.heap.size w X,fun s=>ev.length-s.1,(0,0,0),(cvE rfl rfl),⟨Nat.zero_le _,Nat.le_refl _,rfl,Below.refl _ _⟩,?_⟩
 rintro⟨k,t,m⟩ X ⟨hk,hm,hgo,hbX⟩
 dsimp only at hk hm hgo ⊢
 have hXs:=hbX.size
 refine biE (fun hc=>?_) fun hc=>?_
 ·have hc:(k:Int)<(ev.length:Int):=of_decide_eq_true hc
  have hkl:k<ev.length:=by omega
  obtain⟨b,o,rfl,hb,hat⟩:=zdG (hl.below hbX) hkl
  obtain⟨e,he⟩:=nm (ev.getD k ev0)
  rw [← he] at hat
  have hdr:ev.drop k=e::ev.drop (k+1):=by
   rw [← List.getElem_cons_drop hkl,he,List.getD_eq_getElem?_getD,List.getElem?_eq_getElem hkl];rfl
  rw [hdr] at hgo
  unfold evGo at hgo
  refine⟨k,rfl,hkl,?_⟩
  refine⟨evE.enc e,rfl,hat,hb,?_⟩
  refine zap (X:=X) (v := .agg (evE.enc e).toArray) (ttOk.get 54 _ rfl) rfl rfl (List.all_eq_true.2 fun u hu=>evE.one e u hu) fun Y hbY fY sY=>?_
  have fY:Y.heap[X.heap.size]?=some (.cells (evE.enc e).toArray 54 (0,0)):=fY
  have hbY2:=hbX.trans (hbY.mono hXs)
  have ld:∀ {i:Nat} {v:Value},(evE.enc e)[i]?=some v→Y.cell? ⟨X.heap.size,0+i,none⟩=some v:=fun h=>zac (zab fY) h
  have no:zbA ev locs=false→(Ending.returned (.bool false)=Ending.returned (.bool (zbA ev locs))∧Below w.heap.size w Y):=fun h=>⟨rb h.symm,hbY2⟩
  refine biE (fun h=>?_) fun h=>?_
  ·have h:(k:Int)<(locs:Int):=of_decide_eq_true h
   rw [if_pos (by omega:k<locs)] at hgo
   refine⟨evE.enc e,rfl,zab fY,hlt fY,?_⟩
   refine⟨_,w8N k,?_⟩
   refine⟨u8 e.v,ld (i:=3) rfl,?_⟩
   refine⟨evE.enc ⟨-1,2,UInt8.ofNat k,e.v,0,0,0⟩,zmQ,?_⟩
   refine⟨_,fun w=>zpm _ _ e _ w,?_⟩
   refine biE (fun h2=>?_) fun h2=>?_
   ·have h2:¬ e=⟨-1,2,UInt8.ofNat k,e.v,0,0,0⟩:=by simpa using h2
    rw [if_neg h2] at hgo
    exact no hgo.symm
   ·have h2:e=⟨-1,2,UInt8.ofNat k,e.v,0,0,0⟩:=by simpa using h2
    rw [if_pos h2] at hgo
    refine⟨((k+1:Nat):Int),(zaf (by omega)).trans (by omega),?_⟩
    exact⟨(k+1,t,m),(cvE rfl rfl),⟨hkl,by show m≤k+1;omega,hgo,hbY2⟩,by show ev.length-(k+1)<ev.length-k;omega⟩
  ·have h:¬ (k:Int)<(locs:Int):=of_decide_eq_false h
   rw [if_neg (by omega:¬ k<locs)] at hgo
   refine⟨i64 e.th,ld (i:=0) rfl,?_⟩
   refine biE (fun h1=>?_) fun h1=>?_
   ·have h1:e.th<t:=of_decide_eq_true h1
    refine brT ?_
    rw [if_pos (.inl h1)] at hgo
    exact no hgo.symm
   have h1:¬ e.th<t:=of_decide_eq_false h1
   refine⟨i64 e.th,ld (i:=0) rfl,?_⟩
   refine biE (fun h2=>?_) fun h2=>?_
   ·have h2:4≤e.th:=of_decide_eq_true h2
    rw [if_pos (.inr h2)] at hgo
    exact no hgo.symm
   have h2:¬ 4≤e.th:=of_decide_eq_false h2
   rw [if_neg (by rintro (h | h);exact h1 h;exact h2 h)] at hgo
   refine⟨i64 e.th,ld (i:=0) rfl,?_⟩
   refine biE (fun h9=>?_) fun h9=>?_
   ·have h9:t<e.th:=of_decide_eq_true h9
    dsimp only at hgo
    rw [if_pos h9,if_pos h9] at hgo
    refine⟨i64 e.th,ld (i:=0) rfl,?_⟩
    refine⟨u8 e.p,ld (i:=6) rfl,?_⟩
    refine⟨(e.p.toNat:Int),zaW _,?_⟩
    refine biE (fun h3=>?_) fun h3=>?_
    ·have h3:¬ e.p.toNat=0:=by
      have h3:(!decide ((e.p.toNat:Int)=(0:Nat)))=true:=h3
      simpa using h3
     rw [if_neg h3] at hgo
     exact no hgo.symm
    have h3:e.p.toNat=0:=by
     have h3:(!decide ((e.p.toNat:Int)=(0:Nat)))=false:=h3
     simpa using h3
    rw [if_pos h3] at hgo
    refine⟨((0+1:Nat):Int),(zaf (by omega)).trans (by omega),?_⟩
    refine⟨u8 e.k,ld (i:=1) rfl,?_⟩
    refine biE (fun h4=>?_) fun h4=>?_
    ·refine brE h4 ?_
     have h4:e.k=1:=za6.1 (of_decide_eq_true h4)
     rw [if_pos (.inl h4)] at hgo
     refine⟨u8 e.l,ld (i:=2) rfl,?_⟩
     refine⟨(e.l.toNat:Int),zaW _,?_⟩
     refine biE (fun h5=>?_) fun h5=>?_
     ·have h5:(locs:Int)≤(e.l.toNat:Int):=of_decide_eq_true h5
      rw [if_neg (by omega)] at hgo
      exact no hgo.symm
     ·have h5:¬ (locs:Int)≤(e.l.toNat:Int):=of_decide_eq_false h5
      rw [if_pos (by omega)] at hgo
      refine⟨((k+1:Nat):Int),(zaf (by omega)).trans (by omega),?_⟩
      exact⟨(k+1,e.th,0+1),(cvE rfl rfl),⟨hkl,by show 0+1≤k+1;omega,hgo,hbY2⟩,by show ev.length-(k+1)<ev.length-k;omega⟩
    have h4:¬ e.k=1:=fun e2=>(of_decide_eq_false h4) (by rw [e2];rfl)
    refine biE (fun h5=>?_) fun h5=>?_
    ·have h5:e.k=2:=za6.1 (of_decide_eq_true h5)
     rw [if_pos (.inr h5)] at hgo
     refine⟨u8 e.l,ld (i:=2) rfl,?_⟩
     refine⟨(e.l.toNat:Int),zaW _,?_⟩
     refine biE (fun h5=>?_) fun h5=>?_
     ·have h5:(locs:Int)≤(e.l.toNat:Int):=of_decide_eq_true h5
      rw [if_neg (by omega)] at hgo
      exact no hgo.symm
     ·have h5:¬ (locs:Int)≤(e.l.toNat:Int):=of_decide_eq_false h5
      rw [if_pos (by omega)] at hgo
      refine⟨((k+1:Nat):Int),(zaf (by omega)).trans (by omega),?_⟩
      exact⟨(k+1,e.th,0+1),(cvE rfl rfl),⟨hkl,by show 0+1≤k+1;omega,hgo,hbY2⟩,by show ev.length-(k+1)<ev.length-k;omega⟩
    have h5:¬ e.k=2:=fun e2=>(of_decide_eq_false h5) (by rw [e2];rfl)
    rw [if_neg (by rintro (h | h);exact h4 h;exact h5 h)] at hgo
    refine biE (fun h6=>?_) fun h6=>?_
    ·have h6:e.k=3:=za6.1 (of_decide_eq_true h6)
     rw [if_pos h6] at hgo
     refine⟨u8 e.l,ld (i:=2) rfl,?_⟩
     refine biE (fun h7=>?_) fun h7=>?_
     ·have h7:¬ e.l=0:=by
       have h7:(!decide ((e.l.toNat:Int)=0))=true:=h7
       intro e2
       rw [e2] at h7
       cases h7
      refine brT ?_
      rw [if_neg fun h=>h7 h.1] at hgo
      exact no hgo.symm
     ·have h7:e.l=0:=by
       have h7:(!decide ((e.l.toNat:Int)=((0:UInt8).toNat:Int)))=false:=h7
       exact za6.1 (by simpa using h7)
      refine⟨u8 e.v,ld (i:=3) rfl,?_⟩
      refine biE (fun h8=>?_) fun h8=>?_
      ·have h8:¬ e.v=0:=by
        have h8:(!decide ((e.v.toNat:Int)=0))=true:=h8
        intro e2
        rw [e2] at h8
        cases h8
       rw [if_neg fun h=>h8 h.2] at hgo
       exact no hgo.symm
      ·have h8:e.v=0:=by
        have h8:(!decide ((e.v.toNat:Int)=((0:UInt8).toNat:Int)))=false:=h8
        exact za6.1 (by simpa using h8)
       rw [if_pos ⟨h7,h8⟩] at hgo
       refine⟨((k+1:Nat):Int),(zaf (by omega)).trans (by omega),?_⟩
       exact⟨(k+1,e.th,0+1),(cvE rfl rfl),⟨hkl,by show 0+1≤k+1;omega,hgo,hbY2⟩,by show ev.length-(k+1)<ev.length-k;omega⟩
    ·have h6:¬ e.k=3:=fun e2=>(of_decide_eq_false h6) (by rw [e2];rfl)
     rw [if_neg h6] at hgo
     exact no hgo.symm
   ·have h9:¬ t<e.th:=of_decide_eq_false h9
    dsimp only at hgo
    rw [if_neg h9,if_neg h9] at hgo
    refine⟨u8 e.p,ld (i:=6) rfl,?_⟩
    refine⟨(e.p.toNat:Int),zaW _,?_⟩
    refine biE (fun h3=>?_) fun h3=>?_
    ·have h3:¬ e.p.toNat=m:=by
      have h3:(!decide ((e.p.toNat:Int)=(m:Nat)))=true:=h3
      intro e2
      rw [e2] at h3
      simp at h3
     rw [if_neg h3] at hgo
     exact no hgo.symm
    have h3:e.p.toNat=m:=by
     have h3:(!decide ((e.p.toNat:Int)=(m:Nat)))=false:=h3
     have h3:(e.p.toNat:Int)=(m:Nat):=by simpa using h3
     omega
    rw [if_pos h3] at hgo
    refine⟨((m+1:Nat):Int),(zaf (by omega)).trans (by omega),?_⟩
    refine⟨u8 e.k,ld (i:=1) rfl,?_⟩
    refine biE (fun h4=>?_) fun h4=>?_
    ·refine brE h4 ?_
     have h4:e.k=1:=za6.1 (of_decide_eq_true h4)
     rw [if_pos (.inl h4)] at hgo
     refine⟨u8 e.l,ld (i:=2) rfl,?_⟩
     refine⟨(e.l.toNat:Int),zaW _,?_⟩
     refine biE (fun h5=>?_) fun h5=>?_
     ·have h5:(locs:Int)≤(e.l.toNat:Int):=of_decide_eq_true h5
      rw [if_neg (by omega)] at hgo
      exact no hgo.symm
     ·have h5:¬ (locs:Int)≤(e.l.toNat:Int):=of_decide_eq_false h5
      rw [if_pos (by omega)] at hgo
      refine⟨((k+1:Nat):Int),(zaf (by omega)).trans (by omega),?_⟩
      exact⟨(k+1,t,m+1),(cvE rfl rfl),⟨hkl,by show m+1≤k+1;omega,hgo,hbY2⟩,by show ev.length-(k+1)<ev.length-k;omega⟩
    have h4:¬ e.k=1:=fun e2=>(of_decide_eq_false h4) (by rw [e2];rfl)
    refine biE (fun h5=>?_) fun h5=>?_
    ·have h5:e.k=2:=za6.1 (of_decide_eq_true h5)
     rw [if_pos (.inr h5)] at hgo
     refine⟨u8 e.l,ld (i:=2) rfl,?_⟩
     refine⟨(e.l.toNat:Int),zaW _,?_⟩
     refine biE (fun h5=>?_) fun h5=>?_
     ·have h5:(locs:Int)≤(e.l.toNat:Int):=of_decide_eq_true h5
      rw [if_neg (by omega)] at hgo
      exact no hgo.symm
     ·have h5:¬ (locs:Int)≤(e.l.toNat:Int):=of_decide_eq_false h5
      rw [if_pos (by omega)] at hgo
      refine⟨((k+1:Nat):Int),(zaf (by omega)).trans (by omega),?_⟩
      exact⟨(k+1,t,m+1),(cvE rfl rfl),⟨hkl,by show m+1≤k+1;omega,hgo,hbY2⟩,by show ev.length-(k+1)<ev.length-k;omega⟩
    have h5:¬ e.k=2:=fun e2=>(of_decide_eq_false h5) (by rw [e2];rfl)
    rw [if_neg (by rintro (h | h);exact h4 h;exact h5 h)] at hgo
    refine biE (fun h6=>?_) fun h6=>?_
    ·have h6:e.k=3:=za6.1 (of_decide_eq_true h6)
     rw [if_pos h6] at hgo
     refine⟨u8 e.l,ld (i:=2) rfl,?_⟩
     refine biE (fun h7=>?_) fun h7=>?_
     ·have h7:¬ e.l=0:=by
       have h7:(!decide ((e.l.toNat:Int)=0))=true:=h7
       intro e2
       rw [e2] at h7
       cases h7
      refine brT ?_
      rw [if_neg fun h=>h7 h.1] at hgo
      exact no hgo.symm
     ·have h7:e.l=0:=by
       have h7:(!decide ((e.l.toNat:Int)=((0:UInt8).toNat:Int)))=false:=h7
       exact za6.1 (by simpa using h7)
      refine⟨u8 e.v,ld (i:=3) rfl,?_⟩
      refine biE (fun h8=>?_) fun h8=>?_
      ·have h8:¬ e.v=0:=by
        have h8:(!decide ((e.v.toNat:Int)=0))=true:=h8
        intro e2
        rw [e2] at h8
        cases h8
       rw [if_neg fun h=>h8 h.2] at hgo
       exact no hgo.symm
      ·have h8:e.v=0:=by
        have h8:(!decide ((e.v.toNat:Int)=((0:UInt8).toNat:Int)))=false:=h8
        exact za6.1 (by simpa using h8)
       rw [if_pos ⟨h7,h8⟩] at hgo
       refine⟨((k+1:Nat):Int),(zaf (by omega)).trans (by omega),?_⟩
       exact⟨(k+1,t,m+1),(cvE rfl rfl),⟨hkl,by show m+1≤k+1;omega,hgo,hbY2⟩,by show ev.length-(k+1)<ev.length-k;omega⟩
    ·have h6:¬ e.k=3:=fun e2=>(of_decide_eq_false h6) (by rw [e2];rfl)
     rw [if_neg h6] at hgo
     exact no hgo.symm
 ·have hc:¬ (k:Int)<(ev.length:Int):=of_decide_eq_false hc
  obtain rfl:k=ev.length:=by omega
  rw [List.drop_length] at hgo
  exact⟨rb hgo,hbX⟩
end
end Go.Proofs.YtmbghmhjjodgmaaGreatDoor
namespace Go.Sei
theorem zlR {p:Nat→Bool} {n k:Nat} (hk:k<n) (h:p k=false):(List.range n).all p=false:=by
 rw [List.all_eq_false]
 exact⟨k,List.mem_range.2 hk,by rw [h];decide⟩
theorem zmU {p:Nat→Bool} {k:Nat} (h:(List.range k).all p=true) (hp:p k=true):(List.range (k+1)).all p=true:=by
 rw [List.range_succ,List.all_append,h]
 simp [hp]
theorem zdL {a j:Nat}:(2^a).testBit j=decide (j=a):=by
 rw [Nat.testBit_two_pow]
 exact decide_eq_decide.2 ⟨fun e=>e.symm,fun e=>e.symm⟩
theorem zkR {a:Nat}:∀ (l:List Nat) (f:Nat→Nat) (b j:Nat),((l.foldl (fun f b=>upd f b (f b|||2^a)) f) b).testBit j=((f b).testBit j||(decide (b∈l)&&decide (j=a)))
 | [],f,b,j=>by simp
 | x::l,f,b,j=>by
  rw [List.foldl_cons,zkR l]
  by_cases hx:b=x
  ·subst hx
   rw [za4,Nat.testBit_or,zdL]
   by_cases hl:b∈l <;> by_cases hj:j=a <;> simp [hl,hj]
  ·rw [zcm _ _ hx]
   simp [hx]
theorem zfI (to:Nat→Nat):∀ (n b j:Nat),(zcN to n b).testBit j=(decide (j<n)&&decide (b∈els (to j)))
 | 0,b,j=>by
  show (0:Nat).testBit j=_
  simp
 | n+1,b,j=>by
  have ih:=zfI to n b j
  unfold zcN at ih ⊢
  rw [List.range_succ,List.foldl_append,List.foldl_cons,List.foldl_nil,zkR,ih]
  by_cases hj:j=n
  ·subst hj
   simp
  ·by_cases h2:j<n
   ·rw [decide_eq_true h2,decide_eq_true (by omega:j<n+1),decide_eq_false hj];simp
   ·rw [decide_eq_false h2,decide_eq_false (by omega:¬ j<n+1),decide_eq_false hj];simp
theorem zjm {r:RelD} (h:okR r=true) {b j:Nat}:((zbd r).to b).testBit j=(decide ((j:Int)<r.n)&&decide (b∈els (r.to j))):=by
 have hn:0≤r.n:=by
  unfold okR at h
  rw [Bool.and_eq_true,decide_eq_true_eq] at h
  exact h.1
 have e:zbd r=⟨r.n,zcN r.to r.n.toNat⟩:=if_pos h
 rw [e]
 show (zcN r.to r.n.toNat b).testBit j=_
 rw [zfI]
 congr 1
 exact decide_eq_decide.2 (by omega)
theorem zly {s:Nat} (h0:s≠0) (h:s<2^64):ctz s∈els s:=by
 rw [(zbr h0 h).1]
 exact List.mem_cons_self
end Go.Sei
namespace Go.Proofs.YtmbghmhjjodgmaaGreatDoor
open Go.Vc Go.RowKit Go.Sei
section
variable {b c:Nat} {x:ExD} {q:Option Addr} {w:World}
theorem zfA {k:Nat}:x.ev.getD k ev0=evA x k:=rfl
theorem zkL (fx:ExH w b x q c) (hv:ExV w x q) (hn:x.rf.n=x.ev.length) (hok:okR x.rf=true) (hT:Tz64M w):Calls Tryz.prog 42 #[At0 b] w fun e w'=>e = .returned (.bool (zc1 x))∧Below w.heap.size w w':=by
 refine zah (S:=sg 72) (sgOk _) (args:=[At0 b]) (.s .p (.c .p .p)) Tryz.func42 rfl rfl (Nat.le_of_ble_eq_true rfl) rfl ?_
 obtain⟨from_,hfr⟩:∃ f,f=zbd x.rf:=⟨_,rfl⟩
 have hn20:=hv.n
 refine⟨Nat,fun F=>⟨[(0,At0 b),(3,At0 F)],[]⟩,fun F X=>RelH X F from_∧WrdR from_.to∧w.heap.size≤F∧Below w.heap.size w X,?_,?_⟩
 ·refine⟨relC x.rf,zad _,?_,hlt fx,?_⟩
  ·have h:=zaC (n:=50) (m:=49) (zab fx)
   obtain⟨A,T,hA,hE⟩:=znn x q c
   have e:=hE x.rf
   have e2:(exC x q c).drop 50=relC x.rf++T:=by
    show (exC { x with rf:=x.rf } q c).drop 50=_
    rw [e,← hA,List.drop_left]
   have e3:((exC x q c).toArray.toList.drop 50).take 49=relC x.rf:=by
    show ((exC x q c).drop 50).take 49=_
    rw [e2,List.take_append_of_le_length (by rw [zad];decide),List.take_of_length_le (by rw [zad];decide)]
   rw [e3] at h
   exact h
  refine Calls.mono (zhM hv.rf hT) ?_
  rintro e Y ⟨rfl,hbY,hwr⟩
  refine zap (X:=Y) (v := .agg (relC (zbd x.rf)).toArray) (ttOk.get 27 _ rfl) (zad _) (by kernel_rfl) (zav _) fun Z hbZ fZ sZ=>?_
  rw [← hfr] at fZ hwr
  exact⟨Y.heap.size,(cvE rfl rfl),fZ,hwr,hbY.size,hbY.trans (hbZ.mono hbY.size)⟩
 rintro F X ⟨fF,hwr,hF,hbX⟩
 have bits:∀ i j,(from_.to i).testBit j=true→j<x.ev.length:=fun i j h=>by
  rw [hfr,zjm hok,Bool.and_eq_true,decide_eq_true_eq,hn] at h
  omega
 refine⟨_,zac (zab (zaa hbX fx)) (i:=0) rfl,?_⟩
 refine⟨Nat,fun k=>⟨[(0,At0 b),(3,At0 F),(18,.slice q x.ev.length c),(19,i64 x.ev.length),(20,i64 (k:Nat))],[]⟩,fun k X=>k≤x.ev.length∧(List.range k).all (fun i=>zeL x (from_.to i) (evA x i))=true∧RelH X F from_∧Below w.heap.size w X,fun k=>x.ev.length-k,0,(cvE rfl rfl),⟨Nat.zero_le _,rfl,fF,hbX⟩,?_⟩
 have hall:zc1 x=(List.range x.ev.length).all fun i=>zeL x (from_.to i) (evA x i):=by rw [hfr];rfl
 clear fF hbX
 rintro k X ⟨hk,hgo,fF,hbX⟩
 dsimp only
 have hXs:=hbX.size
 refine biE (fun hc=>?_) fun hc=>?_
 ·have hc:(k:Int)<(x.ev.length:Int):=of_decide_eq_true hc
  have hkl:k<x.ev.length:=by omega
  obtain⟨bq,oq,hqe,hb,hat⟩:=zdG (hv.ev.below hbX) hkl
  rw [zfA] at hat
  obtain⟨e,he⟩:=nm (evA x k)
  obtain⟨s,hs⟩:=nm (from_.to k)
  rw [← he] at hat
  have hs64:s<2^64:=by rw [hs];exact hwr k (by omega)
  have eq0:some (Value.slice q x.ev.length c)=some (Value.slice (some ⟨bq,oq,none⟩) x.ev.length c):=by rw [hqe]
  subst hqe
  refine⟨k,rfl,hkl,?_⟩
  refine⟨evE.enc e,rfl,hat,hb,?_⟩
  refine zap (X:=X) (v := .agg (evE.enc e).toArray) (ttOk.get 54 _ rfl) rfl rfl (List.all_eq_true.2 fun u hu=>evE.one e u hu) fun Y hbY fY sY=>?_
  have fY:Y.heap[X.heap.size]?=some (.cells (evE.enc e).toArray 54 (0,0)):=fY
  have hbY2:=hbX.trans (hbY.mono hXs)
  have no:∀ {Z:World},Below w.heap.size w Z→zeL x s e=false→(Ending.returned (.bool false)=Ending.returned (.bool (zc1 x))∧Below w.heap.size w Z):=fun {Z} hb h=>⟨rb (by
   rw [hall]
   symm
   exact zlR hkl (by rw [← hs,← he];exact h)),hb⟩
  have yes:∀ {Z:World},RelH Z F from_→Below w.heap.size w Z→zeL x s e=true→(k+1≤x.ev.length∧(List.range (k+1)).all (fun i=>zeL x (from_.to i) (evA x i))=true∧RelH Z F from_∧Below w.heap.size w Z):=fun {Z} f hb h=>⟨hkl,zmU hgo (by rw [← hs,← he];exact h),f,hb⟩
  refine⟨k,rfl,by omega,?_⟩
  refine⟨s64 s,by rw [hs];exact zbJ (zaa hbY fF) (by omega),?_⟩
  refine⟨u8 e.k,zac (zab fY) (i:=1) rfl,?_⟩
  refine biE (fun h=>?_) fun h=>?_
  ·have h:¬ e.k=1:=by
    have h:(!decide ((e.k.toNat:Int)=((1:UInt8).toNat:Int)))=true:=h
    intro e2
    rw [e2] at h
    simp at h
   have hone:zeL x s e=decide (s=0):=if_neg h
   refine biE (fun h2=>?_) fun h2=>?_
   ·have h2:¬ s=0:=by
     have h2:(!decide ((s:Int)=0))=true:=h2
     intro e2
     rw [e2] at h2
     cases h2
    exact no hbY2 (by rw [hone];exact decide_eq_false h2)
   ·have h2:s=0:=by
     have h2:(!decide ((s:Int)=0))=false:=h2
     have h2:(s:Int)=0:=by simpa using h2
     omega
    refine⟨((k+1:Nat):Int),(zaf (by omega)).trans (by omega),?_⟩
    exact⟨k+1,(cvE rfl rfl),yes (zaa hbY fF) hbY2 (by rw [hone];exact decide_eq_true h2),by show x.ev.length-(k+1)<x.ev.length-k;omega⟩
  have h:e.k=1:=by
   have h:(!decide ((e.k.toNat:Int)=((1:UInt8).toNat:Int)))=false:=h
   exact za6.1 (by simpa using h)
  refine Calls.mono (zcu hs64 (hT.below hbY2)) ?_
  rintro e2 Z ⟨rfl,hbZ⟩
  have hYs:=hbY2.size
  have hbZ2:=hbY2.trans (hbZ.mono hYs)
  have fZ:=zaa hbZ fY
  have fFZ:=zaa hbZ (zaa hbY fF)
  by_cases hs0:s=0
  ·have e1:(els s).isEmpty=true:=by rw [hs0];rfl
   rw [e1]
   refine brT ?_
   refine brT ?_
   refine no hbZ2 ?_
   unfold zeL
   rw [if_pos h,if_pos hs0]
  obtain⟨hd,hem⟩:=zc4 hs0 hs64
  rw [hd,hem]
  have hmem:=zly hs0 hs64
  have hbit:s.testBit (ctz s)=true:=(zcK.1 hmem).2
  have hwl:ctz s<x.ev.length:=bits k _ (by rw [← hs];exact hbit)
  refine brF ?_
  refine⟨by omega,((2^ctz s:Nat):Int),zbB (e:=ctz s) (by omega),?_⟩
  refine biE (fun h2=>?_) fun h2=>?_
  ·have h2:¬ s=2^ctz s:=by
    have h2:(!decide ((s:Int)=((2^ctz s:Nat):Int)))=true:=h2
    intro e2
    rw [← e2] at h2
    simp at h2
   refine no hbZ2 ?_
   unfold zeL
   rw [if_pos h,if_neg hs0,if_neg h2]
  have h2:s=2^ctz s:=by
   have h2:(!decide ((s:Int)=((2^ctz s:Nat):Int)))=false:=h2
   have h2:(s:Int)=((2^ctz s:Nat):Int):=by simpa using h2
   exact Int.ofNat.inj h2
  obtain⟨t,ht⟩:=nm (ctz s)
  rw [← ht] at hwl h2 ⊢
  obtain⟨bq2,oq2,hqe2,hb2,hat2⟩:=zdG (hv.ev.below hbZ2) hwl
  rw [zfA] at hat2
  obtain⟨f,hf⟩:=nm (evA x t)
  rw [← hf] at hat2
  have hone:zeL x s e=(decide (f.k=2)&&(decide (f.l=e.l)&&decide (f.v=e.v))):=by
   unfold zeL
   rw [if_pos h,if_neg hs0,← ht,if_pos h2,← hf]
  refine⟨_,zac (zab (zaa hbZ2 fx)) (i:=0) rfl,?_⟩
  refine⟨t,rfl,hwl,?_⟩
  refine⟨evE.enc f,rfl,by
   simp only [Option.some.injEq,Addr.mk.injEq,and_true] at hqe2
   rw [hqe2.1,hqe2.2];exact hat2,by
   simp only [Option.some.injEq,Addr.mk.injEq,and_true] at hqe2
   rw [hqe2.1];exact hb2,?_⟩
  refine zap (X:=Z) (v := .agg (evE.enc f).toArray) (ttOk.get 54 _ rfl) rfl rfl (List.all_eq_true.2 fun u hu=>evE.one f u hu) fun V hbV fV sV=>?_
  have fV:V.heap[Z.heap.size]?=some (.cells (evE.enc f).toArray 54 (0,0)):=fV
  have hbV2:=hbZ2.trans (hbV.mono hbZ2.size)
  have fe:=zaa hbV fZ
  have fFV:=zaa hbV fFZ
  have n8:∀ {a d:UInt8},(!decide ((a.toNat:Int)=(d.toNat:Int)))=true→¬ a=d:=fun {a d} h e2=>by
   rw [e2] at h
   simp at h
  have y8:∀ {a d:UInt8},(!decide ((a.toNat:Int)=(d.toNat:Int)))=false→a=d:=fun {a d} h=>za6.1 (by simpa using h)
  refine⟨u8 f.k,zac (zab fV) (i:=1) rfl,?_⟩
  refine biE (fun h3=>?_) fun h3=>?_
  ·have h3:¬ f.k=2:=n8 (d:=2) h3
   refine brT ?_
   refine brT ?_
   exact no hbV2 (by rw [hone,decide_eq_false h3];rfl)
  have h3:f.k=2:=y8 (d:=2) h3
  refine⟨u8 f.l,zac (zab fV) (i:=2) rfl,?_⟩
  refine⟨u8 e.l,zac (zab fe) (i:=2) rfl,?_⟩
  refine biE (fun h4=>?_) fun h4=>?_
  ·have h4:¬ f.l=e.l:=n8 h4
   refine brT ?_
   exact no hbV2 (by rw [hone,decide_eq_false h4,Bool.false_and,Bool.and_false])
  have h4:f.l=e.l:=y8 h4
  refine⟨u8 f.v,zac (zab fV) (i:=3) rfl,?_⟩
  refine⟨u8 e.v,zac (zab fe) (i:=3) rfl,?_⟩
  refine biE (fun h5=>?_) fun h5=>?_
  ·have h5:¬ f.v=e.v:=n8 h5
   exact no hbV2 (by rw [hone,decide_eq_false h5,Bool.and_false,Bool.and_false])
  have h5:f.v=e.v:=y8 h5
  refine⟨((k+1:Nat):Int),(zaf (by omega)).trans (by omega),?_⟩
  exact⟨k+1,(cvE rfl rfl),yes fFV hbV2 (by rw [hone,decide_eq_true h3,decide_eq_true h4,decide_eq_true h5];rfl),by show x.ev.length-(k+1)<x.ev.length-k;omega⟩
 ·have hc:¬ (k:Int)<(x.ev.length:Int):=of_decide_eq_false hc
  obtain rfl:k=x.ev.length:=by omega
  exact⟨rb (by rw [hall];exact hgo.symm),hbX⟩
end
theorem zqb {bx n:Nat} {w:World} {i:Nat} (f:w.heap[bx]?=some (.cells #[i64 (n:Nat)] 3 (0,0))) (hn:n≤1000):Calls Tryz.prog 122 #[i64 (i:Nat),At0 bx] w fun e w'=>e = .returned (.bool true)∧w'.heap[bx]?=some (.cells #[i64 (n+1:Nat)] 3 (0,0))∧w.grownBy w' (some bx):=by
 refine zae (S:=sg 6) (sgOk _) (args:=[i64 (i:Nat),At0 bx]) Tryz.func122 rfl rfl (Nat.le_of_ble_eq_true rfl) rfl ?_
 refine⟨_,zac (zab f) (i:=0) rfl,?_⟩
 refine⟨((n+1:Nat):Int),(zaf (by omega)).trans (by omega),?_⟩
 exact zat (ttOk.get 3 _ rfl) f (o:=0) (v:=i64 (n+1:Nat)) rfl rfl (by show 0<1;decide) rfl fun w' f' g' s'=>⟨rfl,f',g'⟩
theorem zit {bs bx s:Nat} {w:World} (fs:w.heap[bs]?=some (.cells #[s64 s] 24 (0,0))) (fx:w.heap[bx]?=some (.cells #[i64 (0:Nat)] 3 (0,0))) (hs:s<2^64) (hT:Tz64M w) (hbx:0≠bx) :
  Calls Tryz.prog 141 #[.func (.func 122) #[] #[At0 bx],At0 bs] w fun e w'=>(∃ v,e = .returned v)∧w'.heap[bx]?=some (.cells #[i64 (lenS s:Nat)] 3 (0,0))∧w.grownBy w' (some bx):=by
 refine zae (S:=sg 16) (sgOk _) (args:=[.func (.func 122) #[] #[At0 bx],At0 bs]) Tryz.func141 rfl rfl (Nat.le_of_ble_eq_true rfl) rfl ?_
 refine⟨_,zac (zab fs) (i:=0) rfl,?_⟩
 refine⟨Nat×Nat,fun q=>⟨[(0,.func (.func 122) #[] #[At0 bx]),(3,s64 q.2)],[]⟩,fun q X=>X.heap[bx]?=some (.cells #[i64 (q.1:Nat)] 3 (0,0))∧q.1+lenS q.2=lenS s∧q.2<2^64∧w.grownBy X (some bx),fun q=>q.2,(0,s),(cvE rfl rfl),⟨fx,Nat.zero_add _,hs,zbq _ _⟩,?_⟩
 rintro⟨n,r⟩ X ⟨f,hn,hr,gX⟩
 dsimp only at f hn hr ⊢
 have hls:=zew s
 refine biE (fun hc=>?_) fun hc=>?_
 ·have hc:(!decide ((r:Int)=0))=true:=hc
  have hc:¬ (r:Int)=0:=by simpa using hc
  have hr0:r≠0:=by omega
  obtain⟨e1,e2,_,_⟩:=zbr hr0 hr
  have hl:lenS r=lenS (rest r)+1:=by unfold lenS;rw [e1];rfl
  have hTX:Tz64M X:=zbH hT (gX.block _ (zbU hT) (by simpa using hbx))
  refine Calls.mono (zm5 hTX hr0 hr) ?_
  rintro e _ ⟨rfl,rfl⟩
  have hn64:n≤1000:=by unfold lenS at hn;omega
  refine Calls.mono (zqb f hn64) ?_
  rintro e V ⟨rfl,fV,gV⟩
  refine brF ?_
  refine⟨((r-1:Nat):Int),(zeN (a:=(r:Int)-1) (by omega)).trans (by omega),?_⟩
  refine⟨((rest r:Nat):Int),zbv (a:=r) (b:=r-1) hr (by omega),?_⟩
  exact⟨(n+1,rest r),(cvE rfl rfl),⟨fV,by show n+1+lenS (rest r)=_;omega,by show rest r<_;omega,zag gX gV⟩,e2⟩
 ·have hc:(!decide ((r:Int)=0))=false:=hc
  have hc:(r:Int)=0:=by simpa using hc
  obtain rfl:r=0:=by omega
  have h0:lenS 0=0:=rfl
  rw [h0,Nat.add_zero] at hn
  exact⟨⟨_,rfl⟩,by rw [← hn];exact f,gX⟩
theorem zqa {s:Nat} {w:World} (hs:s<2^64) (hT:Tz64M w):Calls Tryz.prog 91 #[s64 s] w fun e w'=>e = .returned (i64 (lenS s:Nat))∧Below w.heap.size w w':=by
 refine zah (S:=sg 11) (sgOk _) (args:=[s64 s]) (.s .p (.c .p .p)) Tryz.func91 rfl rfl (Nat.le_of_ble_eq_true rfl) rfl ?_
 obtain⟨L,hL⟩:=nm (w.heap.size)
 refine⟨Unit,fun _=>⟨[(0,s64 s),(3,At0 L)],[]⟩,fun _ Y=>Y.heap[L]?=some (.cells #[i64 (0:Nat)] 3 (0,0))∧Y.heap.size=L+1∧Below w.heap.size w Y,?_,?_⟩
 ·refine zap (X:=w) (v:=i64 0) (ttOk.get 3 _ rfl) rfl rfl rfl fun Y hbY fY sY=>?_
  have fY:Y.heap[w.heap.size]?=some (.cells #[i64 (0:Nat)] 3 (0,0)):=fY
  exact⟨(),⟨.cons rfl (.cons (by rw [hL];rfl) .nil),rfl⟩,by rw [hL];exact fY,by rw [hL];exact sY,hbY⟩
 rintro _ Y ⟨fY,sY,hbY⟩
 refine Calls.mono zey ?_
 rintro e _ ⟨rfl,rfl⟩
 have hb2:Below Y.heap.size Y (Y.alloc (.cells #[s64 s] 24)):=(Below.refl _ _).alloc (Nat.le_refl _) _
 have htl:=zbU hT
 refine Calls.mono (zit (hnew Y _) (zaa hb2 fY) hs ((hT.below hbY).below hb2) (by omega)) ?_
 rintro e Z ⟨⟨v,rfl⟩,fZ,gZ⟩
 refine⟨_,zac (zab fZ) (i:=0) rfl,rfl,?_⟩
 exact (hbY.trans (hb2.mono hbY.size)).trans (zan gZ (by have:=hbY.size;have:=hb2.size;omega) (by omega))
def cmpI (x y:Nat):Int:=if x<y then -1 else if y<x then 1 else 0
theorem znb {x:Nat} {w:World}:Calls Tryz.prog 121 #[i64 (x:Nat)] w fun e w'=>e = .returned (.bool false)∧w=w':=by
 refine zae (S:=sg 6) (sgOk _) (args:=[i64 (x:Nat)]) Tryz.func121 rfl rfl (Nat.le_of_ble_eq_true rfl) rfl ?_
 exact⟨rb (by simp),rfl⟩
theorem zkb {x y:Nat} {w:World}:Calls Tryz.prog 90 #[i64 (x:Nat),i64 (y:Nat)] w fun e w'=>e = .returned (i64 (cmpI x y))∧w=w':=by
 refine zae (S:=sg 20) (sgOk _) (args:=[i64 (x:Nat),i64 (y:Nat)]) Tryz.func90 rfl rfl (Nat.le_of_ble_eq_true rfl) rfl ?_
 refine Calls.mono znb ?_
 rintro e _ ⟨rfl,rfl⟩
 refine Calls.mono znb ?_
 rintro e _ ⟨rfl,rfl⟩
 refine brF ?_
 refine brF ?_
 refine biE (fun h=>?_) fun h=>?_
 ·have h:(x:Int)<y:=of_decide_eq_true h
  exact⟨ri (by unfold cmpI;rw [if_pos (by omega)]),rfl⟩
 have h:¬ (x:Int)<y:=of_decide_eq_false h
 refine biE (fun h2=>?_) fun h2=>?_
 ·have h2:(y:Int)<x:=of_decide_eq_true h2
  exact⟨ri (by unfold cmpI;rw [if_neg (by omega),if_pos (by omega)]),rfl⟩
 ·have h2:¬ (y:Int)<x:=of_decide_eq_false h2
  exact⟨ri (by unfold cmpI;rw [if_neg (by omega),if_neg (by omega)]),rfl⟩
section
variable {b c L:Nat} {x:ExD} {q:Option Addr} {w:World}
theorem znp {X:World} (fx:ExH X b x q c) {i:Nat} (hi:i<48):X.cell? ⟨b,0+99+1+i*1,none⟩=some (s64 (x.co.to i)):=by
 obtain⟨A,T,hA,hE⟩:=zll x q c
 have hR:RelAt X b 99 34 A T x.co:=⟨hA,by rw [← hE];exact fx⟩
 exact hR.cell hi
theorem zpX {u v:Nat} (fx:ExH w b x q c) (fL:w.heap[L]?=some (.cells #[At0 b] 79 (0,0))) (hco:WrdR x.co.to) (hu:u<48) (hv:v<48) (hT:Tz64M w) :
  Calls Tryz.prog 89 #[i64 (u:Nat),i64 (v:Nat),At0 L] w fun e w'=>e = .returned (i64 (cmpI (lenS (x.co.to v)) (lenS (x.co.to u))))∧Below w.heap.size w w':=by
 refine zae (S:=sg 23) (sgOk _) (args:=[i64 (u:Nat),i64 (v:Nat),At0 L]) Tryz.func89 rfl rfl (Nat.le_of_ble_eq_true rfl) rfl ?_
 refine DrawE.ord [] [0,1,2,3,4,5,6,8,9,10,11,12,13,14,7,15,16,17] (by kernel_rfl) ?_
 have hd:Below w.heap.size w w.drew:=(Below.refl _ _).drew
 refine⟨_,zac (zab (hdr fL)) (i:=0) rfl,?_⟩
 refine⟨v,rfl,hv,?_⟩
 refine⟨_,znp (hdr fx) hv,?_⟩
 refine⟨_,zac (zab (hdr fL)) (i:=0) rfl,?_⟩
 refine⟨u,rfl,hu,?_⟩
 refine⟨_,znp (hdr fx) hu,?_⟩
 refine Calls.mono (zqa (hco v hv) (hT.below hd)) ?_
 rintro e X ⟨rfl,hbX⟩
 refine⟨hbX,?_⟩
 refine Calls.mono (zqa (hco u hu) ((hT.below hd).below hbX)) ?_
 rintro e Y ⟨rfl,hbY⟩
 refine⟨hbY,?_⟩
 refine Calls.mono zkb ?_
 rintro e _ ⟨rfl,rfl⟩
 exact⟨Below.refl _ _,rfl,(hd.trans hbX).trans (hbY.mono hbX.size)⟩
end
theorem zf8 {key:Nat→Nat} {x:Nat}:∀ (B A:List Nat),(∀ y∈B,key y<key x)→zbx key (B++A) x=B++zbx key A x
 | [],A,_=>rfl
 | y::B,A,h=>by
  show (if key y<key x then y::zbx key (B++A) x else x::y::(B++A))=_
  rw [if_pos (h y List.mem_cons_self),zf8 B A fun z hz=>h z (List.mem_cons_of_mem _ hz)];rfl
theorem zf7 {key:Nat→Nat} {x:Nat}:∀ r:List Nat,(zbx key r x).length=r.length+1
 | []=>rfl
 | y::r=>by
  unfold zbx
  split
  ·show (zbx key r x).length+1=_
   rw [zf7 r];rfl
  ·rfl
theorem zf6 {key:Nat→Nat} {x a:Nat}:∀ r:List Nat,a∈zbx key r x↔a=x∨a∈r
 | []=>by simp [zbx]
 | y::r=>by
  unfold zbx
  split
  ·rw [List.mem_cons,zf6 r,List.mem_cons]
   constructor
   ·rintro (h | h | h) <;> simp [h]
   ·rintro (h | h | h) <;> simp [h]
  ·simp
def zgn (key:Nat→Nat) (l:List Nat):List Nat:=l.foldl (fun acc x=>zbx key acc x) []
theorem zjA (key:Nat→Nat) (l:List Nat) (x:Nat):zgn key (l++[x])=zbx key (zgn key l) x:=by
 unfold zgn
 rw [List.foldl_append];rfl
theorem zc6 {key:Nat→Nat} {a:Nat}:∀ (l acc:List Nat),a∈l.foldl (fun acc x=>zbx key acc x) acc↔a∈l∨a∈acc
 | [],acc=>by simp
 | x::l,acc=>by
  rw [List.foldl_cons,zc6 l,zf6,List.mem_cons]
  constructor
  ·rintro (h | h | h) <;> simp [h]
  ·rintro ((h | h) | h) <;> simp [h]
theorem zc7 {key:Nat→Nat}:∀ (l acc:List Nat),(l.foldl (fun acc x=>zbx key acc x) acc).length=l.length+acc.length
 | [],acc=>by simp
 | x::l,acc=>by
  rw [List.foldl_cons,zc7 l,zf7,List.length_cons]
  omega
theorem zgZ {key:Nat→Nat} {l:List Nat} {a:Nat}:a∈zgo key l↔a∈l:=by
 unfold zgo
 rw [List.mem_reverse,zc6];simp
theorem zkw {key:Nat→Nat} (l:List Nat):(zgo key l).length=l.length:=by
 unfold zgo
 rw [List.length_reverse,zc7];rfl
section
variable {b c L g cap:Nat} {x:ExD} {q:Option Addr} {w:World} {l:List Nat}
abbrev keyC (x:ExD):Nat→Nat:=fun i=>lenS (x.co.to i)
theorem zjV {B:Nat} (ho:OwnS natE 3 B w (some ⟨g,0,none⟩) cap l) (fx:ExH w b x q c) (fL:w.heap[L]?=some (.cells #[At0 b] 79 (0,0))) (hT:Tz64M w) (htg:0≠g) (hco:WrdR x.co.to) (h48:∀ a∈l,a<48) (hn:l.length≤19) (hn1:1≤l.length) :
  Calls Tryz.prog 168 #[.slice (some ⟨g,0,none⟩) l.length cap,i64 0,i64 l.length,.func (.func 89) #[] #[At0 L]] w fun e w'=>e = .returned (.tuple #[])∧OwnS natE 3 B w' (some ⟨g,0,none⟩) cap (zgo (keyC x) l)∧w.grownBy w' (some g):=by
 refine zah (S:=sg 53) (sgOk _) (args:=[.slice (some ⟨g,0,none⟩) l.length cap,i64 0,i64 l.length,.func (.func 89) #[] #[At0 L]]) (.c .p .p) Tryz.func168 rfl rfl (Nat.le_of_ble_eq_true rfl) rfl ?_
 obtain⟨E0,hE0⟩:∃ E0:List (Nat×Value),E0=[(0,.slice (some ⟨g,0,none⟩) l.length cap),(1,i64 0),(2,i64 l.length),(3,.func (.func 89) #[] #[At0 L])]:=⟨_,rfl⟩
 have hbg:b≠g:=fun e=>by
  obtain⟨_,_,cur,hc⟩:=zaw ho rfl
  have hc:w.heap[g]?=_:=hc
  rw [← e,fx] at hc
  simp at hc
 have hLg:L≠g:=fun e=>by
  obtain⟨_,_,cur,hc⟩:=zaw ho rfl
  have hc:w.heap[g]?=_:=hc
  rw [← e,fL] at hc
  simp at hc
 refine⟨Unit,fun _=>⟨[(0,.slice (some ⟨g,0,none⟩) l.length cap),(1,i64 0),(2,i64 l.length),(3,.func (.func 89) #[] #[At0 L]),(8,i64 1)],[]⟩,fun _ X=>w=X,?_,?_⟩
 ·refine⟨1,zaf (by omega),?_⟩
  exact⟨(),(cvE rfl rfl),rfl⟩
 rintro _ _ rfl
 have hl0:l.take 1=(zgn (keyC x) (l.take 1)).reverse:=by
  cases l with
  | nil=>simp at hn1
  | cons a l=>rfl
 refine⟨Nat,fun i=>⟨[(0,.slice (some ⟨g,0,none⟩) l.length cap),(1,i64 0),(2,i64 l.length),(3,.func (.func 89) #[] #[At0 L]),(8,i64 (i:Nat))],[]⟩,fun i X=>(1≤i∧i≤l.length)∧OwnS natE 3 B X (some ⟨g,0,none⟩) cap ((zgn (keyC x) (l.take i)).reverse++l.drop i)∧w.grownBy X (some g),fun i=>l.length-i,1,
  (cvE rfl rfl),⟨⟨Nat.le_refl _,hn1⟩,by rw [← hl0,List.take_append_drop];exact ho,zbq _ _⟩,?_⟩
 rintro i X ⟨⟨hi1,hi⟩,oX,gX⟩
 dsimp only
 refine biE (fun hc=>?_) fun hc=>?_
 ·have hc:(i:Int)<(l.length:Int):=of_decide_eq_true hc
  have hil:i<l.length:=by omega
  obtain⟨u,hu⟩:∃ u,l[i]=u:=⟨_,rfl⟩
  have hum:u∈l:=by rw [← hu];exact List.getElem_mem hil
  obtain⟨S,hS⟩:=nm (zgn (keyC x) (l.take i))
  have hSm:∀ a∈S,a<48:=fun a ha=>by
   rw [hS] at ha
   have:=(zc6 (key:=keyC x) (l.take i) []).1 ha
   rcases this with h | h
   ·exact h48 a (List.mem_of_mem_take h)
   ·cases h
  have hSl:S.length=i:=by
   rw [hS]
   unfold zgn
   rw [zc7,List.length_take]
   simp;omega
  have htk:zgn (keyC x) (l.take (i+1))=zbx (keyC x) S u:=by
   rw [List.take_succ_eq_append_getElem hil,hu,zjA,← hS]
  rw [← hS,← List.getElem_cons_drop hil,hu] at oX
  refine⟨List Nat×List Nat,fun s=>⟨[(0,.slice (some ⟨g,0,none⟩) l.length cap),(1,i64 0),(2,i64 l.length),(3,.func (.func 89) #[] #[At0 L]),(8,i64 (i:Nat)),(9,i64 s.1.length)],[]⟩,fun s Y=>S.reverse=s.1++s.2∧(∀ y∈s.2,keyC x y<keyC x u)∧OwnS natE 3 B Y (some ⟨g,0,none⟩) cap (s.1++u::(s.2++l.drop (i+1)))∧w.grownBy Y (some g),fun s=>s.1.length,(S.reverse,[]),
   ⟨.cons rfl (.cons rfl (.cons rfl (.cons rfl (.cons rfl (.cons (by show _=some (i64 (S.reverse.length:Nat));rw [List.length_reverse,hSl];rfl) .nil))))),rfl⟩,⟨by rw [List.append_nil],fun y hy=>(by cases hy),oX,gX⟩,?_⟩
  clear oX gX
  rintro⟨A,Bs⟩ Y ⟨hsp,hkB,oY,gY⟩
  dsimp only at hsp hkB oY ⊢
  have hAl:A.length≤i:=by
   have:=congrArg List.length hsp
   rw [List.length_reverse,hSl,List.length_append] at this
   omega
  have hdY:Below Y.heap.size Y Y.drew:=(Below.refl _ _).drew
  have fin:∀ {Z:World},Below Y.heap.size Y Z→zbx (keyC x) A.reverse u=u::A.reverse→((1≤i+1∧i+1≤l.length)∧OwnS natE 3 B Z (some ⟨g,0,none⟩) cap ((zgn (keyC x) (l.take (i+1))).reverse++l.drop (i+1))∧w.grownBy Z (some g)):=fun {Z} hb hins=>by
   refine⟨⟨by omega,hil⟩,?_,za7 gY (hb.mono gY.size)⟩
   have h1:S=Bs.reverse++A.reverse:=by rw [← List.reverse_append,← hsp,List.reverse_reverse]
   rw [htk,h1,zf8 _ _ (fun y hy=>hkB y (by simpa using hy)),hins]
   have h2:(Bs.reverse++u::A.reverse).reverse++l.drop (i+1)=A++u::(Bs++l.drop (i+1)):=by simp
   rw [h2]
   exact oY.below hb
  refine DrawE.ord [] [0,1,2,3,4,5,6,7,8,9,10,11,12,13,14,15,16] (by kernel_rfl) ?_
  refine biE (fun h=>?_) fun h=>?_
  ·have h:(0:Int)<(A.length:Int):=of_decide_eq_true h
   obtain⟨A',y,hA⟩:∃ A' y,A=A'++[y]:=by
    refine⟨A.dropLast,A.getLast (fun e=>by rw [e] at h;simp at h),(List.dropLast_concat_getLast _).symm⟩
   subst hA
   have hA'l:(A'++[y]).length=A'.length+1:=by simp
   rw [hA'l] at hAl h ⊢
   have hrl:((A'++[y])++u::(Bs++l.drop (i+1))).length=l.length:=by
    have:=congrArg List.length hsp
    rw [List.length_reverse,hSl] at this
    simp only [List.length_append,List.length_cons,List.length_nil,List.length_drop] at this ⊢
    omega
   have hyS:y<48:=hSm y (by
    have:y∈S.reverse:=by rw [hsp];simp
    simpa using this)
   obtain⟨b',o',hq',hb',hat'⟩:=oY.row.at (i:=A'.length) (by rw [hrl];omega)
   have hbo:b'=g∧o'=0:=by simpa using hq'.symm
   obtain⟨rfl,rfl⟩:=hbo
   have c1:Y.cell? ⟨b',0+(A'.length+1)*1,none⟩=some (i64 u):=by
    have:=zac (hat' (A'.length+1) (by rw [hrl];omega)) (i:=0) (v:=i64 u) (by
     have e:((A'++[y])++u::(Bs++l.drop (i+1)))[A'.length+1]?=some u:=by
      rw [List.getElem?_append_right (by simp),hA'l,Nat.sub_self];rfl
     rw [List.getElem?_eq_getElem (by rw [hrl];omega)] at e
     rw [Option.some.inj e];rfl)
    exact this
   have c2:Y.cell? ⟨b',0+A'.length*1,none⟩=some (i64 y):=by
    have:=zac (hat' A'.length (by rw [hrl];omega)) (i:=0) (v:=i64 y) (by
     have e:((A'++[y])++u::(Bs++l.drop (i+1)))[A'.length]?=some y:=by
      rw [List.append_assoc,List.getElem?_append_right (Nat.le_refl _),Nat.sub_self];rfl
     rw [List.getElem?_eq_getElem (by rw [hrl];omega)] at e
     rw [Option.some.inj e];rfl)
    exact this
   refine⟨A'.length+1,rfl,by omega,?_⟩
   refine⟨_,c1,?_⟩
   refine⟨(A'.length:Nat),(zaf (by omega)).trans (by omega),?_⟩
   refine⟨A'.length,rfl,by omega,?_⟩
   refine⟨_,c2,?_⟩
   have fxY:ExH Y b x q c:=(gY.block b (hlt fx) (by simpa using hbg)).trans fx
   have fLY:Y.heap[L]?=some (.cells #[At0 b] 79 (0,0)):=(gY.block L (hlt fL) (by simpa using hLg)).trans fL
   have hTY:Tz64M Y:=zbH hT (gY.block _ (zbU hT) (by simpa using htg))
   refine Calls.mono (zpX (hdr fxY) (hdr fLY) hco (h48 u hum) hyS (hTY.below hdY)) ?_
   rintro e Z ⟨rfl,hbZ⟩
   refine⟨hbZ,?_⟩
   have hYZ:=hdY.trans hbZ
   refine biE (fun hm=>?_) fun hm=>?_
   ·have hm:cmpI (lenS (x.co.to y)) (lenS (x.co.to u))<0:=of_decide_eq_true hm
    have hk:keyC x y<keyC x u:=by
     unfold cmpI at hm
     by_cases h1:lenS (x.co.to y)<lenS (x.co.to u)
     ·exact h1
     ·rw [if_neg h1] at hm
      split at hm <;> omega
    have oZ:=oY.below hYZ
    have gZ:=za7 gY (hYZ.mono gY.size)
    obtain⟨b2,o2,hq2,hb2,hat2⟩:=oZ.row.at (i:=A'.length) (by rw [hrl];omega)
    have hbo2:b2=b'∧o2=0:=by simpa using hq2.symm
    obtain⟨rfl,rfl⟩:=hbo2
    have dZ:Below Z.heap.size Z Z.drew:=(Below.refl _ _).drew
    have d1:=zdz hYZ c1
    have d2:=zdz hYZ c2
    refine DrawE.ord [15,17] [0,1,2,3,4,5,6,7,8,9,10,11,12,13,14,15,16,17] (by kernel_rfl) ?_
    refine⟨(A'.length:Nat),(zaf (by omega)).trans (by omega),?_⟩
    refine⟨(A'.length:Nat),(zaf (by omega)).trans (by omega),?_⟩
    refine⟨A'.length,rfl,by omega,?_⟩
    refine⟨_,d2,?_⟩
    refine⟨A'.length+1,rfl,by omega,?_⟩
    refine⟨_,d1,?_⟩
    refine⟨A'.length+1,rfl,by omega,?_⟩
    refine zh1 (i:=A'.length+1) (v:=y) (ttOk.get 3 _ rfl) rfl (oZ.below dZ) (by rw [hrl];omega) fun V oV gV=>?_
    refine⟨A'.length,rfl,by omega,?_⟩
    refine zh1 (i:=A'.length) (v:=u) (ttOk.get 3 _ rfl) rfl oV (by rw [List.length_set,hrl];omega) fun U oU gU=>?_
    have e1:(((A'++[y])++u::(Bs++l.drop (i+1))).set (A'.length+1) y).set A'.length u=A'++u::((y::Bs)++l.drop (i+1)):=by
     rw [List.append_assoc,List.set_append_right _ _ (by omega),Nat.add_sub_cancel_left,List.set_append_right _ _ (by omega),Nat.sub_self];rfl
    rw [e1] at oU
    refine⟨(A'.length:Nat),(zaf (by omega)).trans (by omega),?_⟩
    refine⟨(A',y::Bs),(cvE rfl rfl),⟨by rw [hsp];simp,fun z hz=>?_,oU,zag (zag (za7 gZ (dZ.mono gZ.size)) gV) gU⟩,by show A'.length<_;omega⟩
    rcases List.mem_cons.1 hz with hz | hz
    ·rw [hz];exact hk
    ·exact hkB z hz
   ·have hm:¬ cmpI (lenS (x.co.to y)) (lenS (x.co.to u))<0:=of_decide_eq_false hm
    have hk:¬ keyC x y<keyC x u:=fun h=>hm (by unfold cmpI;rw [if_pos h];decide)
    refine⟨((i+1:Nat):Int),(zaf (by omega)).trans (by omega),?_⟩
    refine⟨i+1,(cvE rfl rfl),fin hYZ ?_,by show l.length-(i+1)<l.length-i;omega⟩
    rw [List.reverse_append]
    exact if_neg hk
  ·have h:¬ (0:Int)<(A.length:Int):=of_decide_eq_false h
   have hA0:A=[]:=List.length_eq_zero_iff.1 (by omega)
   subst hA0
   refine brF ?_
   refine⟨((i+1:Nat):Int),(zaf (by omega)).trans (by omega),?_⟩
   exact⟨i+1,(cvE rfl rfl),fin hdY rfl,by show l.length-(i+1)<l.length-i;omega⟩
 ·have hc:¬ (i:Int)<(l.length:Int):=of_decide_eq_false hc
  obtain rfl:i=l.length:=by omega
  rw [List.take_length,List.drop_length,List.append_nil] at oX
  exact⟨rfl,oX,gX⟩
end
theorem zqn:∃ G,TyEq Tryz.prog 30 true 6 2 G∧∀ f:Nat→UInt8,G (seg 6 fun i=>u8 (f i)):=by
 refine⟨_,.array (m:=6) (by decide) Tryz.underlying30 (fun w=>Tryz.isAgg30 w) (zbp (by kernel_rfl) (by kernel_rfl)).1 (by kernel_rfl) tU8,fun f i hi=>?_⟩
 refine⟨((f i).toNat:Int),?_⟩
 unfold zbk
 have h:=zdR (n:=6) (fun i=>u8 (f i)) hi
 rw [Nat.mul_one]
 have hl:i<(seg 6 fun i=>u8 (f i)).length:=by rw [zax];exact hi
 rw [← List.getElem_cons_drop hl,List.take_succ_cons,List.take_zero]
 rw [List.getElem?_eq_getElem hl] at h
 rw [Option.some.inj h];rfl
theorem zmy {f g:Nat→UInt8}:seg 6 (fun i=>u8 (f i))=seg 6 (fun i=>u8 (g i))↔((List.range 6).all fun l=>decide (f l=g l))=true:=by
 rw [List.all_eq_true]
 constructor
 ·intro h i hi
  have hi:=List.mem_range.1 hi
  have h3:=zdR (n:=6) (fun i=>u8 (f i)) hi
  rw [h,zdR (n:=6) (fun i=>u8 (g i)) hi] at h3
  have h4:=Option.some.inj h3
  unfold u8 at h4
  injection h4 with _ h5
  exact decide_eq_true (za6.1 h5).symm
 ·intro h
  unfold seg
  refine List.map_congr_left fun i hi=>?_
  rw [of_decide_eq_true (h i hi)]
theorem zmK (x y:Operand) (f g:Nat→UInt8) (w:World):(do eqGuard .eql 30 x y (.agg (seg 6 fun i=>u8 (f i)).toArray) (.agg (seg 6 fun i=>u8 (g i)).toArray);binOp .eql 30 (.agg (seg 6 fun i=>u8 (f i)).toArray) (.agg (seg 6 fun i=>u8 (g i)).toArray)).run Tryz.prog w = .ok (.bool ((List.range 6).all fun l=>decide (f l=g l))) w:=by
 obtain⟨G,h1,h2⟩:=zqn
 have:=zlo h1 9998 rfl (by kernel_rfl) (zax 6 _) (zax 6 _) (h2 f) (h2 g) x y w
 rw [this,zef zmy,Bool.decide_eq_true]
section
variable {b c L g cap:Nat} {x:ExD} {q:Option Addr} {w:World} {l:List Nat}
theorem zkt {B:Nat} (ho:OwnS natE 3 B w (some ⟨g,0,none⟩) cap l) (fx:ExH w b x q c) (fL:w.heap[L]?=some (.cells #[At0 b] 79 (0,0))) (hT:Tz64M w) (htg:0≠g) (hco:WrdR x.co.to) (h48:∀ a∈l,a<48) (hn:l.length≤19) (hn1:1≤l.length) :
  Calls Tryz.prog 120 #[.slice (some ⟨g,0,none⟩) l.length cap,i64 l.length,.func (.func 89) #[] #[At0 L]] w fun e w'=>e = .returned (.tuple #[])∧OwnS natE 3 B w' (some ⟨g,0,none⟩) cap (zgo (keyC x) l)∧w.grownBy w' (some g):=by
 refine zae (S:=sg 63) (sgOk _) (args:=[.slice (some ⟨g,0,none⟩) l.length cap,i64 l.length,.func (.func 89) #[] #[At0 L]]) Tryz.func120 rfl rfl (Nat.le_of_ble_eq_true rfl) rfl ?_
 refine⟨Unit,fun _=>⟨[(0,.slice (some ⟨g,0,none⟩) l.length cap),(1,i64 l.length),(2,.func (.func 89) #[] #[At0 L]),(6,i64 20),(7,i64 0),(8,i64 20)],[]⟩,fun _ X=>w=X,fun _=>0,(),(cvE rfl rfl),rfl,?_⟩
 rintro _ _ rfl
 refine brN (decide_eq_false (by omega)) ?_
 refine Calls.mono (zjV ho fx fL hT htg hco h48 hn hn1) ?_
 rintro e X ⟨rfl,oX,gX⟩
 refine⟨Unit,fun _=>⟨[(1,i64 l.length),(6,i64 20)],[]⟩,fun _ Y=>X=Y,fun _=>0,(),(cvE rfl rfl),rfl,?_⟩
 rintro _ _ rfl
 refine brN (decide_eq_false (by omega)) ?_
 exact⟨rfl,oX,gX⟩
theorem zgT {B:Nat} (ho:OwnS natE 3 B w (some ⟨g,0,none⟩) cap l) (fx:ExH w b x q c) (fL:w.heap[L]?=some (.cells #[At0 b] 79 (0,0))) (hT:Tz64M w) (htg:0≠g) (hco:WrdR x.co.to) (h48:∀ a∈l,a<48) (hn:l.length≤19) (hn1:1≤l.length) :
  Calls Tryz.prog 88 #[.slice (some ⟨g,0,none⟩) l.length cap,.func (.func 89) #[] #[At0 L]] w fun e w'=>e = .returned (.tuple #[])∧OwnS natE 3 B w' (some ⟨g,0,none⟩) cap (zgo (keyC x) l)∧w.grownBy w' (some g):=by
 refine zae (S:=sg 9) (sgOk _) (args:=[.slice (some ⟨g,0,none⟩) l.length cap,.func (.func 89) #[] #[At0 L]]) Tryz.func88 rfl rfl (Nat.le_of_ble_eq_true rfl) rfl ?_
 refine Calls.mono (zkt ho fx fL hT htg hco h48 hn hn1) ?_
 rintro e X ⟨rfl,h1,h2⟩
 exact⟨rfl,h1,h2⟩
theorem zld {l:List Nat} (h:0<l.length):l.headD 48=l[0]:=by
 cases l with
 | nil=>simp at h
 | cons a r=>rfl
theorem zm2 {k a:Nat} (h:a∈zeI x k):a<x.ev.length:=by
 unfold zeI at h
 exact List.mem_range.1 (List.mem_filter.1 h).1
theorem zkP {k a:Nat} (h:a∈zaR x k):a<x.ev.length:=zm2 (zgZ.1 h)
theorem zpI (q:Option Addr) (c:Nat):((exC x q c).drop 99).take 49=relC x.co:=by
 obtain⟨A,T,hA,hE⟩:=zll x q c
 show ((exC { x with co:=x.co } q c).drop 99).take 49=_
 rw [hE,← hA,List.drop_left,List.take_append_of_le_length (by rw [zad];decide),List.take_of_length_le (by rw [zad];decide)]
theorem zon (q:Option Addr) (c:Nat):((exC x q c).drop 327).take 6=seg 6 fun i=>u8 (x.mem i):=by
 obtain⟨A,T,hA,hE⟩:=znm x q c []
 have:=hE x.mem
 rw [List.append_nil] at this
 show ((exC { x with mem:=x.mem } q c).drop 327).take 6=_
 rw [this,← hA,List.drop_left,List.take_append_of_le_length (by rw [zax];decide),List.take_of_length_le (by rw [zax];decide)]
abbrev zoT (X:World) (b:Nat) (f:Nat→UInt8):Prop:=X.heap[b]?=some (.cells (seg 6 fun i=>u8 (f i)).toArray 30 (0,0))
theorem zlC {locs:Nat} (fx:ExH w b x q c) (hv:ExV w x q) (hlo:locs≤6) (hne:∀ l,l<locs→zeI x l≠[]) (hT:Tz64M w) :
  Calls Tryz.prog 43 #[At0 b,i64 locs] w fun e w'=>e = .returned (.bool (zc9 x locs))∧Below w.heap.size w w':=by
 refine zah (S:=sg 87) (sgOk _) (args:=[At0 b,i64 locs]) (.c .p (.c .p (.c .p (.c .p .p)))) Tryz.func43 rfl rfl (Nat.le_of_ble_eq_true rfl) rfl ?_
 obtain⟨L,hL⟩:=nm (w.heap.size)
 have hbw:=hlt fx
 have hn:=hv.n
 have htl:=zbU hT
 refine⟨Unit,fun _=>⟨[(1,i64 locs),(2,At0 L)],[]⟩,fun _ X=>X.heap[L]?=some (.cells #[At0 b] 79 (0,0))∧X.heap.size=L+1∧Below w.heap.size w X,⟨(),⟨.cons rfl (.cons (by rw [hL];rfl) .nil),rfl⟩,by rw [hL];exact hnew w _,by rw [hL];exact World.size_alloc _ _,(Below.refl _ w).alloc (Nat.le_refl _) _⟩,?_⟩
 rintro _ X ⟨fL,sX,hbX⟩
 refine⟨Unit,fun _=>⟨[(1,i64 locs),(2,At0 L),(5,At0 (L+1))],[]⟩,fun _ Y=>RelH Y (L+1) ⟨x.ev.length,fun _=>0⟩∧Y.heap.size=L+2∧Below X.heap.size X Y,?_,?_⟩
 ·refine⟨_,zac (zab fL) (i:=0) rfl,?_⟩
  refine⟨_,zac (zab (zaa hbX fx)) (i:=0) rfl,?_⟩
  refine⟨relC ⟨x.ev.length,fun _=>0⟩,by kernel_rfl,?_⟩
  refine zap (X:=X) (v := .agg (relC ⟨x.ev.length,fun _=>0⟩).toArray) (ttOk.get 27 _ rfl) (zad _) (by kernel_rfl) (zav _) fun Z hbZ fZ sZ=>?_
  rw [sX] at fZ sZ
  exact⟨(),⟨.cons rfl (.cons rfl (.cons (by rw [← sX];rfl) .nil)),rfl⟩,fZ,sZ,hbZ⟩
 rintro _ Y ⟨fT,sY,hbY⟩
 refine⟨Unit,fun _=>⟨[(1,i64 locs),(2,At0 L),(5,At0 (L+1)),(6,At0 (L+2))],[]⟩,fun _ Z=>zoT Z (L+2) (fun _=>0)∧RelH Z (L+1) ⟨x.ev.length,fun _=>0⟩∧Z.heap[L]?=some (.cells #[At0 b] 79 (0,0))∧Z.heap.size=L+3∧Below w.heap.size w Z,?_,?_⟩
 ·exact⟨(),⟨.cons rfl (.cons rfl (.cons rfl (.cons (by rw [← sY];rfl) .nil))),rfl⟩,by rw [← sY];exact hnew Y _,hold _ fT,hold _ (zaa hbY fL),by rw [World.size_alloc,sY],(hbX.trans (hbY.mono hbX.size)).alloc (by have:=hbX.size;have:=hbY.size;omega) _⟩
 clear fL sX hbX fT sY hbY
 clear X Y
 rintro _ X ⟨fM,fT,fL,sX,hbX⟩
 obtain⟨P0,hP0⟩:∃ P0:RelD×(Nat→UInt8),P0=(⟨x.ev.length,fun _=>0⟩,fun _=>0):=⟨_,rfl⟩
 have hco:zc9 x locs=match coGo x locs 0 P0 with
  | none=>false
  | some p=>zcI p.1 x.co&&(List.range 6).all fun l=>decide (p.2 l=x.mem l):=by rw [hP0];rfl
 refine⟨RelD×(Nat→UInt8),fun P=>⟨[(2,At0 L),(5,At0 (L+1)),(6,At0 (L+2))],[]⟩,fun P Z=>coGo x locs 0 P0=some P∧zoT Z (L+2) P.2∧RelH Z (L+1) P.1∧Z.heap[L]?=some (.cells #[At0 b] 79 (0,0))∧Below w.heap.size w Z,?_,?_⟩
 ·refine⟨Nat×(RelD×(Nat→UInt8)),fun s=>⟨[(2,At0 L),(5,At0 (L+1)),(6,At0 (L+2)),(17,i64 locs),(18,i64 (s.1:Nat))],[]⟩,fun s Z=>s.1≤locs∧coGo x (locs-s.1) s.1 s.2=coGo x locs 0 P0∧WrdR s.2.1.to∧zoT Z (L+2) s.2.2∧RelH Z (L+1) s.2.1∧Z.heap[L]?=some (.cells #[At0 b] 79 (0,0))∧Below w.heap.size w Z∧L+3≤Z.heap.size,fun s=>locs-s.1,(0,P0),
   (cvE rfl rfl),⟨Nat.zero_le _,rfl,by rw [hP0];exact fun i _=>(by show 0<_;decide),by rw [hP0];exact fM,by rw [hP0];exact fT,fL,hbX,by omega⟩,?_⟩
  clear fM fT fL sX hbX
  rintro⟨l,P⟩ Z ⟨hl,hgo,hPw,fM,fT,fL,hbZ,sZ⟩
  dsimp only at hl hgo hPw fM fT sZ ⊢
  refine biE (fun hc=>?_) fun hc=>?_
  ·have hc:(l:Int)<(locs:Int):=of_decide_eq_true hc
   have hll:l<locs:=by omega
   have hstep:coGo x (locs-l) l P=if (zaR x l).headD 48=l then coGo x (locs-(l+1)) (l+1) (zdk (zaR x l) P.1,upd P.2 l (zif x.ev (zaR x l))) else none:=by
    rw [show locs-l=(locs-(l+1))+1 by omega];rfl
   refine⟨_,zac (zab fL) (i:=0) rfl,?_⟩
   refine⟨_,zac (zab (zaa hbZ fx)) (i:=0) rfl,?_⟩
   obtain⟨pr,hpr⟩:∃ pr:Nat→Bool,pr=fun i=>decide ((evA x i).k=2)&&decide ((evA x i).l.toNat=l):=⟨_,rfl⟩
   refine⟨Nat×Option Addr×Nat,fun s=>⟨[(2,At0 L),(5,At0 (L+1)),(6,At0 (L+2)),(7,i64 (l:Nat)),(8,.slice s.2.1 ((List.range s.1).filter pr).length s.2.2),(17,i64 locs),(18,i64 (l:Nat)),(24,.slice q x.ev.length c),(25,i64 x.ev.length),(26,i64 (s.1:Nat))],[]⟩,fun s V=>s.1≤x.ev.length∧OwnS natE 3 Z.heap.size V s.2.1 s.2.2 ((List.range s.1).filter pr)∧Below Z.heap.size Z V,fun s=>x.ev.length-s.1,(0,none,0),
    (cvE rfl rfl),⟨Nat.zero_le _,OwnS.nil,Below.refl _ _⟩,?_⟩
   rintro⟨k,ps,cs⟩ V ⟨hk,oV,hbV⟩
   dsimp only at hk oV ⊢
   have hVs:=hbV.size
   refine biE (fun hc=>?_) fun hc=>?_
   ·have hc:(k:Int)<(x.ev.length:Int):=of_decide_eq_true hc
    have hkl:k<x.ev.length:=by omega
    have hbwV:=hbZ.trans (hbV.mono hbZ.size)
    obtain⟨bq,oq,hqe,hb,hat⟩:=zdG (hv.ev.below hbwV) hkl
    rw [zfA] at hat
    have hfl:(List.range (k+1)).filter pr=(List.range k).filter pr++if pr k=true then [k] else []:=by
     rw [List.range_succ,List.filter_append,List.filter_cons,List.filter_nil]
    have hprk:pr k=(decide ((evA x k).k=2)&&decide ((evA x k).l.toNat=l)):=by rw [hpr]
    have hll2:((List.range k).filter pr).length≤k:=by
     have:=List.length_filter_le pr (List.range k)
     rw [List.length_range] at this
     exact this
    obtain⟨e,he⟩:=nm (evA x k)
    rw [← he] at hat hprk
    have eq0:some (Value.slice q x.ev.length c)=some (Value.slice (some ⟨bq,oq,none⟩) x.ev.length c):=by rw [hqe]
    subst hqe
    refine⟨k,rfl,hkl,?_⟩
    refine⟨evE.enc e,rfl,hat,hb,?_⟩
    refine zap (X:=V) (v := .agg (evE.enc e).toArray) (ttOk.get 54 _ rfl) rfl rfl (List.all_eq_true.2 fun u hu=>evE.one e u hu) fun U hbU fU sU=>?_
    have fU:U.heap[V.heap.size]?=some (.cells (evE.enc e).toArray 54 (0,0)):=fU
    have oU:=oV.below hbU
    have hbU2:=hbV.trans (hbU.mono hVs)
    have hUs:=hbU2.size
    have skip:pr k=false→(k+1≤x.ev.length∧OwnS natE 3 Z.heap.size U ps cs ((List.range (k+1)).filter pr)∧Below Z.heap.size Z U):=fun h=>⟨hkl,by rw [hfl,h];simpa using oU,hbU2⟩
    have skipE:pr k=false→((List.range (k+1)).filter pr).length=((List.range k).filter pr).length:=fun h=>by rw [hfl,h];simp
    refine⟨u8 e.k,zac (zab fU) (i:=1) rfl,?_⟩
    refine biE (fun h1=>?_) fun h1=>?_
    ·have h1:e.k=2:=za6.1 (of_decide_eq_true h1)
     refine⟨u8 e.l,zac (zab fU) (i:=2) rfl,?_⟩
     refine⟨(e.l.toNat:Int),zaW _,?_⟩
     refine biE (fun h2=>?_) fun h2=>?_
     ·have h2:(e.l.toNat:Int)=(l:Int):=of_decide_eq_true h2
      have hp1:pr k=true:=by rw [hprk,decide_eq_true h1,decide_eq_true (by omega:e.l.toNat=l)];rfl
      rw [if_pos hp1] at hfl
      refine⟨⟨by decide,by decide,rfl⟩,natE.enc k,rfl,?_⟩
      have hb2:Below U.heap.size U (U.alloc (.cells (natE.enc k).toArray 3)):=(Below.refl _ _).alloc (Nat.le_refl _) _
      have sb2:=hb2.size
      unfold opsE zcv
      show SatR _ _
      refine appI (oU.below hb2) (zaX natE k) (by omega) (by omega) fun p' c' S oS gS hat2=>?_
      rw [zbY] at gS
      rw [← hfl] at oS ⊢
      refine⟨((k+1:Nat):Int),(zaf (by omega)).trans (by omega),?_⟩
      exact⟨(k+1,p',c'),(cvE rfl rfl),⟨hkl,oS,hbU2.trans ((hb2.mono hUs).trans (za1 (oU.below hb2) (by omega) (Nat.le_refl _) gS))⟩,by show x.ev.length-(k+1)<x.ev.length-k;omega⟩
     ·have h2:¬ (e.l.toNat:Int)=(l:Int):=of_decide_eq_false h2
      have hp0:pr k=false:=by rw [hprk,decide_eq_false (by omega:¬ e.l.toNat=l),Bool.and_false]
      refine⟨((k+1:Nat):Int),(zaf (by omega)).trans (by omega),?_⟩
      exact⟨(k+1,ps,cs),⟨.cons rfl (.cons rfl (.cons rfl (.cons rfl (.cons (by show _=some (Value.slice ps ((List.range (k+1)).filter pr).length cs);rw [skipE hp0];rfl) (.cons rfl (.cons rfl (.cons rfl (.cons rfl (.cons rfl .nil))))))))),rfl⟩,skip hp0,by show x.ev.length-(k+1)<x.ev.length-k;omega⟩
    ·have h1:¬ e.k=2:=fun e2=>(of_decide_eq_false h1) (by rw [e2];rfl)
     have hp0:pr k=false:=by rw [hprk,decide_eq_false h1];rfl
     refine brF ?_
     refine⟨((k+1:Nat):Int),(zaf (by omega)).trans (by omega),?_⟩
     exact⟨(k+1,ps,cs),⟨.cons rfl (.cons rfl (.cons rfl (.cons rfl (.cons (by show _=some (Value.slice ps ((List.range (k+1)).filter pr).length cs);rw [skipE hp0];rfl) (.cons rfl (.cons rfl (.cons rfl (.cons rfl (.cons rfl .nil))))))))),rfl⟩,skip hp0,by show x.ev.length-(k+1)<x.ev.length-k;omega⟩
   have hc:¬ (k:Int)<(x.ev.length:Int):=of_decide_eq_false hc
   obtain rfl:k=x.ev.length:=by omega
   have hwr:(List.range x.ev.length).filter pr=zeI x l:=by rw [hpr];rfl
   rw [hwr] at oV ⊢
   have hwn:=hne l hll
   have hw1:1≤(zeI x l).length:=List.length_pos_iff.2 hwn
   have hw19:(zeI x l).length≤19:=by
    have:=List.length_filter_le pr (List.range x.ev.length)
    rw [hwr,List.length_range] at this
    omega
   have hps:∃ g,ps=some ⟨g,0,none⟩:=by
    rcases oV.inv with ⟨_,_,h⟩ | ⟨g,cur,h,_⟩
    ·exact (hwn h).elim
    ·exact⟨g,h⟩
   obtain⟨g,rfl⟩:=hps
   have hg:=(zaw oV rfl).1
   have hg:Z.heap.size≤g:=hg
   have hbwV:=hbZ.trans (hbV.mono hbZ.size)
   have hZw:=hbZ.size
   refine Calls.mono (zgT oV (zaa hbwV fx) (zaa hbV fL) (hT.below hbwV) (by omega) hv.co (fun a ha=>by have:=zm2 ha;omega) hw19 hw1) ?_
   rintro e U ⟨rfl,oU,gU⟩
   have oU:OwnS natE 3 Z.heap.size U (some ⟨g,0,none⟩) cs (zaR x l):=oU
   have hrl:(zaR x l).length=(zeI x l).length:=zkw _
   have hbU:Below Z.heap.size Z U:=hbV.trans (zan gU hVs hg)
   have hbwU:=hbZ.trans (hbU.mono hZw)
   have hU0:0<(zaR x l).length:=by omega
   obtain⟨bq,oq,hqe,hbq,hatq⟩:=oU.row.at hU0
   have hbo:bq=g∧oq=0:=by simpa using hqe.symm
   obtain⟨rfl,rfl⟩:=hbo
   rw [← hrl]
   have hh:(zaR x l).headD 48=(zaR x l)[0]:=zld hU0
   refine⟨0,rfl,hU0,?_⟩
   refine⟨i64 (zaR x l)[0],by have:=zac (hatq 0 hU0) (i:=0) (v:=i64 (zaR x l)[0]) rfl;exact this,?_⟩
   refine biE (fun h=>?_) fun h=>?_
   ·have h:(!decide (((zaR x l)[0]:Int)=(l:Int)))=true:=h
    have h:¬ ((zaR x l)[0]:Int)=(l:Int):=by simpa using h
    rw [hstep,if_neg (by rw [hh];omega)] at hgo
    refine⟨rb ?_,hbwU⟩
    rw [hco,← hgo]
   have h:(!decide (((zaR x l)[0]:Int)=(l:Int)))=false:=h
   have h:((zaR x l)[0]:Int)=(l:Int):=by simpa using h
   rw [hstep,if_pos (by rw [hh];omega)] at hgo
   have fTU:=zaa hbU fT
   have hRT:RelAt U (L+1) 0 27 [] [] P.1:=⟨rfl,by simpa using fTU⟩
   have hrk48:∀ a∈zaR x l,a<48:=fun a ha=>by have:=zkP ha;omega
   have hLZ:=hlt fT
   have hL2Z:=hlt fM
   refine Calls.mono (znd hRT hPw oU.row (fun a ha=>by cases ha;exact⟨hbq,by show bq≠L+1;omega⟩) (by omega) hrk48) ?_
   rintro e S ⟨rfl,hRS,gS⟩
   have fTS:RelH S (L+1) (zdk (zaR x l) P.1):=by simpa using hRS.cells
   have hbS:Below w.heap.size w S:=hbwU.trans (zan gS hbwU.size (by omega))
   have fMS:=(gS.block (L+2) (hlt (zaa hbU fM)) (by simp)).trans (zaa hbU fM)
   have fLS:=(gS.block L (hlt (zaa hbU fL)) (by simp)).trans (zaa hbU fL)
   have oS:=zaU oU fTU (by decide) gS
   obtain⟨j,hj⟩:∃ j,j+1=(zaR x l).length:=⟨(zaR x l).length-1,by omega⟩
   have hjl:j<(zaR x l).length:=by omega
   obtain⟨b6,o6,hp6,hl6,hat6⟩:=oS.row.at hjl
   have hbo6:b6=bq∧o6=0:=by simpa using hp6.symm
   obtain⟨rfl,rfl⟩:=hbo6
   obtain⟨t,ht⟩:∃ t,(zaR x l)[j]=t:=⟨_,rfl⟩
   have htev:t<x.ev.length:=zkP (by rw [← ht];exact List.getElem_mem hjl)
   have hlast:(zaR x l).getLastD 0=t:=by
    rw [List.getLastD_eq_getLast?,List.getLast?_eq_getElem?,show (zaR x l).length-1=j by omega,List.getElem?_eq_getElem hjl,ht];rfl
   obtain⟨b7,o7,hp7,hl7,hat7⟩:=zdG (hv.ev.below hbS) htev
   rw [zfA] at hat7
   have hlV:zif x.ev (zaR x l)=(evA x t).v:=by
    show (x.ev.getD ((zaR x l).getLastD 0) ev0).v=_
    rw [hlast];rfl
   have dS:Below S.heap.size S S.drew:=(Below.refl _ _).drew
   refine DrawE.ord [15] [0,1,2,3,4,5,6,7,8,9,10,11,12,13,14,15] (by kernel_rfl) ?_
   refine⟨_,zac (zab (hdr fLS)) (i:=0) rfl,?_⟩
   refine⟨_,zac (zab (hdr (zaa hbS fx))) (i:=0) rfl,?_⟩
   refine⟨(j:Nat),(zaf (by omega)).trans (by omega),?_⟩
   refine⟨j,rfl,hjl,?_⟩
   refine⟨i64 t,by have:=zac (zaq dS (hat6 j hjl)) (i:=0) (v:=i64 t) (by rw [ht];rfl);exact this,?_⟩
   rw [hp7]
   refine⟨t,rfl,htev,?_⟩
   refine⟨u8 (evA x t).v,by have:=zac (zaq dS hat7) (i:=3) (v:=u8 (evA x t).v) rfl;exact this,?_⟩
   refine⟨l,rfl,by omega,?_⟩
   refine zat (ttOk.get 5 _ rfl) (hdr fMS) (o:=0+l*1) (v:=u8 (evA x t).v) rfl rfl (by rw [zax];omega) rfl fun T fT2 gT sT=>?_
   have gT2:S.grownBy T (some (L+2)):=zag (zak dS) gT
   have e8:=zkA (n:=6) (fun i=>u8 (P.2 i)) (fun i=>u8 (upd P.2 l (evA x t).v i)) (i:=l) (by omega) rfl (fun j hj=>by rw [zcm _ _ hj])
   rw [za4] at e8
   rw [Nat.mul_one,Nat.zero_add,e8] at fT2
   refine⟨((l+1:Nat):Int),(zaf (by omega)).trans (by omega),?_⟩
   refine⟨(l+1,(zdk (zaR x l) P.1,upd P.2 l (evA x t).v)),(cvE rfl rfl),⟨hll,by rw [← hlV];exact hgo,zhr hPw hrk48,fT2,(gT2.block (L+1) (hlt fTS) (by simp)).trans fTS,(gT2.block L (hlt fLS) (by simp)).trans fLS,hbS.trans (zan gT2 hbS.size (by omega)),by have:=gT2.size;have:=gS.size;have:=hbU.size;omega⟩,by show locs-(l+1)<locs-l;omega⟩
  ·have hc:¬ (l:Int)<(locs:Int):=of_decide_eq_false hc
   obtain rfl:l=locs:=by omega
   rw [Nat.sub_self] at hgo
   exact⟨P,(cvE rfl rfl),hgo.symm,fM,fT,fL,hbZ⟩
 rintro P Z ⟨hgo,fM,fT,fL,hbZ⟩
 have hco2:zc9 x locs=(zcI P.1 x.co&&(List.range 6).all fun l=>decide (P.2 l=x.mem l)):=by rw [hco,hgo]
 refine DrawE.ord [] [0,1,2,3,4,5,6,7,8,9,10,11,12,13,14,15] (by kernel_rfl) ?_
 have dZ:Below Z.heap.size Z Z.drew:=(Below.refl _ _).drew
 refine⟨relC P.1,zad _,zab (hdr fT),hlt (hdr fT),?_⟩
 refine⟨_,zac (zab (hdr fL)) (i:=0) rfl,?_⟩
 have fxZ:=hdr (zaa hbZ fx)
 refine⟨relC x.co,zad _,by have h:=zaC (n:=99) (m:=49) (zab fxZ);rw [show (exC x q c).toArray.toList=exC x q c from rfl,zpI] at h;exact h,hlt fxZ,?_⟩
 refine⟨_,fun w=>zlp _ _ P.1 x.co w,?_⟩
 have fin:Below w.heap.size w Z.drew:=hbZ.trans (dZ.mono hbZ.size)
 refine biE (fun h=>?_) fun h=>?_
 ·have h:zcI P.1 x.co=true:=h
  refine⟨seg 6 (fun i=>u8 (P.2 i)),zax _ _,zab (hdr fM),hlt (hdr fM),?_⟩
  refine⟨_,zac (zab (hdr fL)) (i:=0) rfl,?_⟩
  refine⟨seg 6 (fun i=>u8 (x.mem i)),zax _ _,by have h:=zaC (n:=327) (m:=6) (zab fxZ);rw [show (exC x q c).toArray.toList=exC x q c from rfl,zon] at h;exact h,hlt fxZ,?_⟩
  refine⟨_,fun w=>zmK _ _ P.2 x.mem w,?_⟩
  exact⟨rb (by rw [hco2,h,Bool.true_and]),fin⟩
 ·have h:zcI P.1 x.co=false:=h
  exact⟨rb (by rw [hco2,h,Bool.false_and]),fin⟩
end
section
variable {b c:Nat} {x:ExD} {q:Option Addr} {w:World}
theorem ziK {X:World} {o:Nat} {A T:List Value} {r:RelD} (fx:ExH X b x q c) (hA:A.length=o) (hE:exC x q c=A++(relC r++T)) {i:Nat} (hi:i<48):X.cell? ⟨b,o+1+i*1,none⟩=some (s64 (r.to i)):=by
 have hR:RelAt X b o 34 A T r:=⟨hA,by rw [← hE];exact fx⟩
 exact hR.cell hi
theorem zpg {X:World} (fx:ExH X b x q c) {i:Nat} (hi:i<48):X.cell? ⟨b,0+1+1+i*1,none⟩=some (s64 (x.po.to i)):=by
 obtain⟨A,T,hA,hE⟩:=zmH x q c []
 exact ziK fx hA (by rw [← hE,List.append_nil]) hi
theorem zpM {X:World} (fx:ExH X b x q c) {i:Nat} (hi:i<48):X.cell? ⟨b,0+148+1+i*1,none⟩=some (s64 (x.dt.to i)):=by
 obtain⟨A,T,hA,hE⟩:=zmI x q c []
 exact ziK fx hA (by rw [← hE,List.append_nil]) hi
theorem zpU {X:World} (fx:ExH X b x q c) {i:Nat} (hi:i<48):X.cell? ⟨b,0+197+1+i*1,none⟩=some (s64 (x.ct.to i)):=by
 obtain⟨A,T,hA,hE⟩:=zmJ x q c []
 exact ziK fx hA (by rw [← hE,List.append_nil]) hi
theorem zpa {X:World} (fx:ExH X b x q c) {i:Nat} (hi:i<48):X.cell? ⟨b,0+246+1+i*1,none⟩=some (s64 (x.rm.to i)):=by
 obtain⟨A,T,hA,hE⟩:=zmG x q c []
 exact ziK fx hA (by rw [← hE,List.append_nil]) hi
theorem n64 {a b:Nat} (h:(!decide ((a:Int)=(b:Int)))=true):¬ a=b:=fun e=>by
 rw [e] at h
 simp at h
theorem y64 {a b:Nat} (h:(!decide ((a:Int)=(b:Int)))=false):a=b:=by
 have h:(a:Int)=(b:Int):=by simpa using h
 exact Int.ofNat.inj h
theorem n8 {a d:UInt8} (h:(!decide ((a.toNat:Int)=(d.toNat:Int)))=true):¬ a=d:=fun e2=>by
 rw [e2] at h
 simp at h
theorem y8 {a d:UInt8} (h:(!decide ((a.toNat:Int)=(d.toNat:Int)))=false):a=d:=za6.1 (by simpa using h)
def wrG (x:ExD) (k:Nat):Nat:=(List.range k).foldl (fun s i=>if (evA x i).k=2 then s|||2^i else s) 0
theorem ziD (x:ExD) (k:Nat):wrG x (k+1)=if (evA x k).k=2 then wrG x k|||2^k else wrG x k:=by
 unfold wrG
 rw [List.range_succ,List.foldl_append];rfl
theorem ziE (x:ExD):∀ k,k≤64→wrG x k<2^64
 | 0,_=>by show 0<_;decide
 | k+1,h=>by
  rw [ziD]
  split
  ·exact Nat.or_lt_two_pow (ziE x k (by omega)) (zaG (by omega))
  ·exact ziE x k (by omega)
theorem zj0 (fx:ExH w b x q c) (hv:ExV w x q) (hrn:x.rm.n=x.ev.length) (hok:okR x.rm=true) (hT:Tz64M w) :
  Calls Tryz.prog 44 #[At0 b] w fun e w'=>e = .returned (.bool (zcE x))∧Below w.heap.size w w':=by
 refine zah (S:=sg 130) (sgOk _) (args:=[At0 b]) (.s .p (.s .p (.c .p .p))) Tryz.func44 rfl rfl (Nat.le_of_ble_eq_true rfl) rfl ?_
 have hn:=hv.n
 obtain⟨W,hW⟩:=nm (zm4 x)
 have hWG:W=wrG x x.ev.length:=by rw [hW];rfl
 have hW64:W<2^64:=by rw [hWG];exact ziE x _ (by omega)
 refine⟨Unit,fun _=>⟨[(0,At0 b),(3,s64 W),(4,s64 0)],[]⟩,fun _ X=>Below w.heap.size w X,?_,?_⟩
 ·refine⟨_,zac (zab fx) (i:=0) rfl,?_⟩
  refine⟨Nat,fun k=>⟨[(0,At0 b),(3,s64 (wrG x k)),(4,s64 0),(17,.slice q x.ev.length c),(18,i64 x.ev.length),(19,i64 (k:Nat))],[]⟩,fun k X=>k≤x.ev.length∧Below w.heap.size w X,fun k=>x.ev.length-k,0,
   (cvE rfl rfl),⟨Nat.zero_le _,Below.refl _ _⟩,?_⟩
  rintro k X ⟨hk,hbX⟩
  dsimp only
  refine biE (fun hc=>?_) fun hc=>?_
  ·have hc:(k:Int)<(x.ev.length:Int):=of_decide_eq_true hc
   have hkl:k<x.ev.length:=by omega
   obtain⟨bq,oq,hqe,hb,hat⟩:=zdG (hv.ev.below hbX) hkl
   rw [zfA] at hat
   obtain⟨e,he⟩:=nm (evA x k)
   have hs:=ziD x k
   rw [← he] at hat hs
   subst hqe
   refine⟨k,rfl,hkl,?_⟩
   refine⟨evE.enc e,rfl,hat,hb,?_⟩
   refine zap (X:=X) (v := .agg (evE.enc e).toArray) (ttOk.get 54 _ rfl) rfl rfl (List.all_eq_true.2 fun u hu=>evE.one e u hu) fun Y hbY fY sY=>?_
   have fY:Y.heap[X.heap.size]?=some (.cells (evE.enc e).toArray 54 (0,0)):=fY
   have hbY2:=hbX.trans (hbY.mono hbX.size)
   refine⟨u8 e.k,zac (zab fY) (i:=1) rfl,?_⟩
   refine biE (fun h=>?_) fun h=>?_
   ·have h:e.k=2:=za6.1 (of_decide_eq_true h)
    rw [if_pos h] at hs
    refine⟨by omega,((2^k:Nat):Int),zbB (e:=k) (by omega),?_⟩
    refine⟨((wrG x k|||2^k:Nat):Int),zb9 (ziE x k (by omega)) (zaG (by omega)),?_⟩
    refine⟨((k+1:Nat):Int),(zaf (by omega)).trans (by omega),?_⟩
    exact⟨k+1,⟨.cons rfl (.cons (by show _=some (s64 (wrG x (k+1)));rw [hs];rfl) (.cons rfl (.cons rfl (.cons rfl (.cons rfl .nil))))),rfl⟩,⟨hkl,hbY2⟩,by show x.ev.length-(k+1)<x.ev.length-k;omega⟩
   ·have h:¬ e.k=2:=fun e2=>(of_decide_eq_false h) (by rw [e2];rfl)
    rw [if_neg h] at hs
    refine⟨((k+1:Nat):Int),(zaf (by omega)).trans (by omega),?_⟩
    exact⟨k+1,⟨.cons rfl (.cons (by show _=some (s64 (wrG x (k+1)));rw [hs];rfl) (.cons rfl (.cons rfl (.cons rfl (.cons rfl .nil))))),rfl⟩,⟨hkl,hbY2⟩,by show x.ev.length-(k+1)<x.ev.length-k;omega⟩
  ·have hc:¬ (k:Int)<(x.ev.length:Int):=of_decide_eq_false hc
   obtain rfl:k=x.ev.length:=by omega
   exact⟨(),⟨.cons rfl (.cons (by show _=some (s64 W);rw [hWG];rfl) (.cons rfl .nil)),rfl⟩,hbX⟩
 rintro _ X hbX
 refine⟨_,zac (zab (zaa hbX fx)) (i:=0) rfl,?_⟩
 have hdep:zcE x=ziu x W 0 x.ev 0:=by rw [hW];rfl
 refine⟨Nat×Nat,fun s=>⟨[(0,At0 b),(3,s64 W),(4,s64 s.2),(35,.slice q x.ev.length c),(36,i64 x.ev.length),(37,i64 (s.1:Nat))],[]⟩,fun s X=>s.1≤x.ev.length∧ziu x W s.1 (x.ev.drop s.1) s.2=zcE x∧s.2<2^64∧Below w.heap.size w X,fun s=>x.ev.length-s.1,(0,0),
  (cvE rfl rfl),⟨Nat.zero_le _,hdep.symm,by decide,hbX⟩,?_⟩
 clear hbX
 rintro⟨k,h⟩ X ⟨hk,hgo,hh,hbX⟩
 dsimp only at hk hgo hh ⊢
 refine biE (fun hc=>?_) fun hc=>?_
 ·have hc:(k:Int)<(x.ev.length:Int):=of_decide_eq_true hc
  have hkl:k<x.ev.length:=by omega
  have hk48:k<48:=by omega
  obtain⟨bq,oq,hqe,hb,hat⟩:=zdG (hv.ev.below hbX) hkl
  rw [zfA] at hat
  obtain⟨e,he⟩:=nm (evA x k)
  rw [← he] at hat
  have hdrp:x.ev.drop k=e::x.ev.drop (k+1):=by
   rw [← List.getElem_cons_drop hkl,he]
   unfold evA
   rw [List.getD_eq_getElem?_getD,List.getElem?_eq_getElem hkl];rfl
  rw [hdrp] at hgo
  unfold ziu at hgo
  obtain⟨d,hd⟩:=nm (x.dt.to k)
  obtain⟨t,ht⟩:=nm (x.ct.to k)
  obtain⟨r,hr⟩:=nm (x.rm.to k)
  obtain⟨po,hpo⟩:=nm (x.po.to k)
  dsimp only at hgo
  rw [← hd,← ht,← hr,← hpo] at hgo
  have d64:d<2^64:=by rw [hd];exact hv.dt k hk48
  have t64:t<2^64:=by rw [ht];exact hv.ct k hk48
  have r64:r<2^64:=by rw [hr];exact hv.rm k hk48
  have p64:po<2^64:=by rw [hpo];exact hv.po k hk48
  have dt64:=Nat.or_lt_two_pow d64 t64
  have dtr64:=Nat.or_lt_two_pow dt64 r64
  have dr64:=Nat.or_lt_two_pow d64 r64
  subst hqe
  refine⟨k,rfl,hkl,?_⟩
  refine⟨evE.enc e,rfl,hat,hb,?_⟩
  refine zap (X:=X) (v := .agg (evE.enc e).toArray) (ttOk.get 54 _ rfl) rfl rfl (List.all_eq_true.2 fun u hu=>evE.one e u hu) fun Y hbY fY sY=>?_
  have fY:Y.heap[X.heap.size]?=some (.cells (evE.enc e).toArray 54 (0,0)):=fY
  have hbY2:=hbX.trans (hbY.mono hbX.size)
  have dY:Below Y.heap.size Y Y.drew:=(Below.refl _ _).drew
  have fxY:=hdr (zaa hbY2 fx)
  have fYd:=hdr fY
  have hbD:=hbY2.trans (dY.mono hbY2.size)
  have no:∀ {Z:World},Below w.heap.size w Z→zcE x=false→(Ending.returned (.bool false)=Ending.returned (.bool (zcE x))∧Below w.heap.size w Z):=fun {Z} hb h=>⟨rb h.symm,hb⟩
  refine DrawE.ord [] [0,1,2,3,4,5,6,7,8,9,10,11,12,13,14,15,16,17,18,19,20,21,22,23] (by kernel_rfl) ?_
  refine⟨k,rfl,hk48,?_⟩
  refine⟨s64 d,by rw [hd];exact zpM fxY hk48,?_⟩
  refine⟨k,rfl,hk48,?_⟩
  refine⟨s64 t,by rw [ht];exact zpU fxY hk48,?_⟩
  refine⟨k,rfl,hk48,?_⟩
  refine⟨s64 r,by rw [hr];exact zpa fxY hk48,?_⟩
  refine⟨_,zb9 d64 t64,?_⟩
  refine⟨_,zb9 dt64 r64,?_⟩
  refine biE (fun h1=>?_) fun h1=>?_
  ·have h1:d|||t|||r=0:=Int.ofNat.inj (of_decide_eq_true h1)
   rw [if_pos h1] at hgo
   refine⟨((k+1:Nat):Int),(zaf (by omega)).trans (by omega),?_⟩
   exact⟨(k+1,h),(cvE rfl rfl),⟨hkl,hgo,hh,hbD⟩,by show x.ev.length-(k+1)<x.ev.length-k;omega⟩
  have h1:¬ d|||t|||r=0:=fun e2=>(of_decide_eq_false h1) (by rw [e2];rfl)
  rw [if_neg h1] at hgo
  refine⟨u8 e.k,zac (zab fYd) (i:=1) rfl,?_⟩
  refine biE (fun h2=>?_) fun h2=>?_
  ·have h2:¬ e.k=1:=n8 (d:=1) h2
   rw [if_neg fun h=>h2 h.1] at hgo
   refine brT ?_
   refine brT ?_
   exact no hbD hgo.symm
  have h2:e.k=1:=y8 (d:=1) h2
  refine⟨_,zb9 d64 r64,?_⟩
  refine⟨_,zcR dr64 hW64,?_⟩
  refine biE (fun h3=>?_) fun h3=>?_
  ·have h3:¬ zb2 (d|||r) W=0:=n64 (b:=0) h3
   rw [if_neg fun h=>h3 h.2.1] at hgo
   refine brT ?_
   exact no hbD hgo.symm
  have h3:zb2 (d|||r) W=0:=y64 (b:=0) h3
  refine⟨_,zb9 d64 t64,?_⟩
  refine⟨_,zb9 dt64 r64,?_⟩
  refine⟨k,rfl,hk48,?_⟩
  refine⟨s64 po,by rw [hpo];exact zpg fxY hk48,?_⟩
  refine⟨_,zcR dtr64 p64,?_⟩
  refine biE (fun h4=>?_) fun h4=>?_
  ·have h4:¬ zb2 (d|||t|||r) po=0:=n64 (b:=0) h4
   rw [if_neg fun h=>h4 h.2.2] at hgo
   exact no hbD hgo.symm
  have h4:zb2 (d|||t|||r) po=0:=y64 (b:=0) h4
  rw [if_pos ⟨h2,h3,h4⟩] at hgo
  refine Calls.mono (zcu r64 (hT.below hbD)) ?_
  rintro e2 Z ⟨rfl,hbZ⟩
  have hbZ2:=hbD.trans (hbZ.mono hbD.size)
  by_cases hr0:r=0
  ·have e1:(els r).isEmpty=true:=by rw [hr0];rfl
   rw [e1]
   rw [if_pos hr0] at hgo
   refine brF ?_
   refine⟨((k+1:Nat):Int),(zaf (by omega)).trans (by omega),?_⟩
   exact⟨(k+1,h),(cvE rfl rfl),⟨hkl,hgo,hh,hbZ2⟩,by show x.ev.length-(k+1)<x.ev.length-k;omega⟩
  rw [if_neg hr0] at hgo
  obtain⟨hhd,hem⟩:=zc4 hr0 r64
  rw [hhd,hem]
  have hmem:=zly hr0 r64
  have hbit:r.testBit (ctz r)=true:=(zcK.1 hmem).2
  have hvl:ctz r<x.ev.length:=by
   have:=(zh5 hok hv.rm hk48 (by rw [← hr];exact hbit)).1
   rw [hrn] at this
   omega
  obtain⟨v,hvd⟩:=nm (ctz r)
  rw [← hvd] at hvl hgo ⊢
  refine brT ?_
  have fZ:=zaa hbZ fYd
  have dZ:Below Z.heap.size Z Z.drew:=(Below.refl _ _).drew
  have hbZ3:=hbZ2.trans (dZ.mono hbZ2.size)
  refine DrawE.ord [] [0,1,2,3,4,5,6,7,8,9,10,11,12,13,14,15,16,17,18,19,20,21,22,23] (by kernel_rfl) ?_
  refine⟨by omega,((2^v:Nat):Int),zbB (e:=v) (by omega),?_⟩
  refine biE (fun h5=>?_) fun h5=>?_
  ·have h5:¬ r=2^v:=n64 h5
   rw [if_neg fun h=>h5 h.1] at hgo
   refine brT ?_
   refine brT ?_
   exact no hbZ3 hgo.symm
  have h5:r=2^v:=y64 h5
  refine⟨by omega,_,ze6 (a:=h) (k:=v) (by omega),?_⟩
  refine⟨_,zbv (a:=h/2^v) (b:=1) (Nat.lt_of_le_of_lt (Nat.div_le_self _ _) hh) (by decide),?_⟩
  rw [zix]
  cases hb5:h.testBit v with
  | true =>
   rw [if_neg fun h=>(by rw [hb5] at h;cases h.2.1)] at hgo
   refine brT ?_
   refine brT ?_
   exact no hbZ3 hgo.symm
  | false =>
   refine brF ?_
   obtain⟨bq2,oq2,hqe2,hb2,hat2⟩:=zdG (hv.ev.below hbZ3) hvl
   rw [zfA] at hat2
   obtain⟨f,hf⟩:=nm (evA x v)
   rw [← hf] at hat2 hgo
   refine⟨_,zac (zab (zaa hbZ3 fx)) (i:=0) rfl,?_⟩
   refine⟨v,rfl,hvl,?_⟩
   simp only [Option.some.injEq,Addr.mk.injEq,and_true] at hqe2
   rw [← hqe2.1,← hqe2.2] at hat2
   refine⟨u8 f.l,by have:=zac hat2 (i:=2) (v:=u8 f.l) rfl;exact this,?_⟩
   refine⟨u8 e.l,zac (zab (hdr fZ)) (i:=2) rfl,?_⟩
   refine biE (fun h6=>?_) fun h6=>?_
   ·have h6:¬ f.l=e.l:=n8 h6
    rw [if_neg fun h=>h6 h.2.2] at hgo
    exact no hbZ3 hgo.symm
   have h6:f.l=e.l:=y8 h6
   rw [if_pos ⟨h5,hb5,h6⟩] at hgo
   refine⟨_,zb9 hh r64,?_⟩
   refine⟨((k+1:Nat):Int),(zaf (by omega)).trans (by omega),?_⟩
   exact⟨(k+1,h|||r),(cvE rfl rfl),⟨hkl,hgo,Nat.or_lt_two_pow hh r64,hbZ3⟩,by show x.ev.length-(k+1)<x.ev.length-k;omega⟩
 ·have hc:¬ (k:Int)<(x.ev.length:Int):=of_decide_eq_false hc
  obtain rfl:k=x.ev.length:=by omega
  rw [List.drop_length] at hgo
  exact⟨rb hgo,hbX⟩
end
theorem zjc {locs:Nat}:∀ (ev:List Ev) (i:Nat) (t:Int) (n:Nat),evGo locs i ev t n=true→∀ j,i+j<locs→j<ev.length→∃ v,ev.getD j ev0=⟨-1,2,UInt8.ofNat (i+j),v,0,0,0⟩
 | [],_,_,_,_,_,_,h=>by simp at h
 | e::ev,i,t,n,h,j,hj,hl=>by
  unfold evGo at h
  rw [if_pos (by omega:i<locs)] at h
  by_cases he:e=⟨-1,2,UInt8.ofNat i,e.v,0,0,0⟩
  ·rw [if_pos he] at h
   cases j with
   | zero=>exact⟨e.v,by rw [Nat.add_zero];exact he⟩
   | succ j =>
    obtain⟨v,hv⟩:=zjc ev (i+1) t n h j (by omega) (by simpa using hl)
    exact⟨v,by rw [show i+(j+1)=i+1+j by omega];exact hv⟩
  ·rw [if_neg he] at h;cases h
theorem zmD (ev:List Ev):zcs ev≤ev.length:=by
 unfold zcs
 induction ev with
 | nil=>exact Nat.le_refl _
 | cons e ev ih =>
  rw [List.takeWhile_cons]
  split
  ·rw [List.length_cons,List.length_cons];omega
  ·exact Nat.zero_le _
theorem zl0 {x:ExD} {locs:Nat} (h:zbA x.ev locs=true) (hl:locs≤x.ev.length) (h6:locs≤6):∀ l,l<locs→zeI x l≠[]:=by
 intro l hll he
 obtain⟨v,hv⟩:=zjc x.ev 0 0 0 h l (by omega) (by omega)
 have:l∈zeI x l:=by
  unfold zeI
  rw [List.mem_filter,List.mem_range]
  refine⟨by omega,?_⟩
  have h2:evA x l=⟨-1,2,UInt8.ofNat (0+l),v,0,0,0⟩:=hv
  rw [h2,Bool.and_eq_true,decide_eq_true_eq,decide_eq_true_eq]
  refine⟨rfl,?_⟩
  show (UInt8.ofNat (0+l)).toNat=l
  rw [Nat.zero_add,UInt8.toNat_ofNat']
  exact Nat.mod_eq_of_lt (by omega)
 rw [he] at this
 cases this
abbrev zeM (x:ExD):List RelD:=[x.po,x.rf,x.co,x.dt,x.ct,x.rm]
theorem zom (x:ExD) (q:Option Addr) (c:Nat) {i:Nat} (hi:i<6):((exC x q c).drop (1+49*i)).take 49=relC ((zeM x).getD i x.po):=by
 have g:∀ {A T:List Value} {o:Nat} {r:RelD},A.length=o→exC x q c=A++(relC r++T)→((exC x q c).drop o).take 49=relC r:=fun {A T o r} hA hE=>by
  rw [hE,← hA,List.drop_left,List.take_append_of_le_length (by rw [zad];decide),List.take_of_length_le (by rw [zad];decide)]
 match i,hi with
 | 0,_=>obtain⟨A,T,hA,hE⟩:=zmH x q c [];exact g hA (by rw [← hE,List.append_nil];rfl)
 | 1,_=>obtain⟨A,T,hA,hE⟩:=zpE x q c [];exact g hA (by rw [← hE,List.append_nil];rfl)
 | 2,_=>obtain⟨A,T,hA,hE⟩:=zpH x q c [];exact g hA (by rw [← hE,List.append_nil];rfl)
 | 3,_=>obtain⟨A,T,hA,hE⟩:=zmI x q c [];exact g hA (by rw [← hE,List.append_nil];rfl)
 | 4,_=>obtain⟨A,T,hA,hE⟩:=zmJ x q c [];exact g hA (by rw [← hE,List.append_nil];rfl)
 | 5,_=>obtain⟨A,T,hA,hE⟩:=zmG x q c [];exact g hA (by rw [← hE,List.append_nil];rfl)
theorem znU (L:Nat) {k:Nat} (hk:k<6):((List.range 6).map (fun i=>Value.pointer (some ⟨L,0+(1+49*i),none⟩)))[k]?=some (.pointer (some ⟨L,0+(1+49*k),none⟩)):=by
 rw [List.getElem?_map,List.getElem?_range hk];rfl
def okX (x:ExD) (r:RelD):Bool:=decide (r.n=x.ev.length)&&okR r
section
variable {c:Nat} {x:ExD} {q:Option Addr} {w:World}
theorem zfa {X:World} {b:Nat} (fx:ExH X b x q c) {i:Nat} (hi:i<6):zay X ⟨b,0+(1+49*i),none⟩ (relC ((zeM x).getD i x.po)):=by
 have h:=zaC (n:=1+49*i) (m:=49) (zab fx)
 rw [show (exC x q c).toArray.toList=exC x q c from rfl,zom x q c hi] at h
 exact h
theorem ExV.rel (hv:ExV w x q) {i:Nat} (hi:i<6):WrdR ((zeM x).getD i x.po).to:=by
 match i,hi with
 | 0,_=>exact hv.po
 | 1,_=>exact hv.rf
 | 2,_=>exact hv.co
 | 3,_=>exact hv.dt
 | 4,_=>exact hv.ct
 | 5,_=>exact hv.rm
theorem zcH (hv:ExV w x q) (hT:Tz64M w):Calls Tryz.prog 8 #[.agg (exC x q c).toArray] w fun e w'=>e = .returned (.bool (zaJ x))∧Below w.heap.size w w':=by
 refine zah (S:=sg 70) (sgOk _) (args:=[.agg (exC x q c).toArray]) (.c .p (.c .p (.c .p (.c .p (.c .p .p))))) Tryz.func8 rfl rfl (Nat.le_of_ble_eq_true rfl) rfl ?_
 obtain⟨L,hL⟩:=nm (w.heap.size)
 have hn:=hv.n
 refine⟨Unit,fun _=>⟨[(1,At0 L)],[]⟩,fun _ X=>ExH X L x q c∧Below w.heap.size w X,⟨(),⟨.cons (by rw [hL];rfl) .nil,rfl⟩,by rw [hL];exact hnew w _,(Below.refl _ w).alloc (Nat.le_refl _) _⟩,?_⟩
 rintro _ X ⟨fx,hbX⟩
 obtain⟨n,hnn⟩:=nm (zcs x.ev)
 refine⟨Unit,fun _=>⟨[(1,At0 L)],[]⟩,fun _ Y=>X=Y,?_,?_⟩
 ·refine⟨_,zac (zab fx) (i:=0) rfl,?_⟩
  refine biE (fun h=>?_) fun _=>?_
  ·have h:(48:Int)<(x.ev.length:Nat):=of_decide_eq_true h
   omega
  exact⟨(),(cvE rfl rfl),rfl⟩
 rintro _ _ rfl
 refine⟨Unit,fun _=>⟨[(1,At0 L),(3,i64 (n:Nat))],[]⟩,fun _ Y=>Below X.heap.size X Y,?_,?_⟩
 ·refine⟨_,zac (zab fx) (i:=0) rfl,?_⟩
  refine Calls.mono (zjX (hv.below hbX).ev (by omega)) ?_
  rintro e Y ⟨rfl,hbY⟩
  rw [← hnn]
  exact⟨(),(cvE rfl rfl),hbY⟩
 rintro _ Y hbY
 have hvX:=hv.below hbX
 have hnl:n≤x.ev.length:=by rw [hnn];exact zmD _
 have hbwY:=hbX.trans (hbY.mono hbX.size)
 have hr0:decide (x.ev.length≤48)=true:=decide_eq_true (by omega)
 have no:∀ {Z:World},Below w.heap.size w Z→zaJ x=false→(Ending.returned (.bool false)=Ending.returned (.bool (zaJ x))∧Below w.heap.size w Z):=fun {Z} hb h=>⟨rb h.symm,hb⟩
 refine⟨Unit,fun _=>⟨[(1,At0 L),(3,i64 (n:Nat))],[]⟩,fun _ Z=>zbA x.ev n=true∧(1≤n∧n≤6)∧ExH Z L x q c∧Below w.heap.size w Z,?_,?_⟩
 ·refine biE (fun h1=>?_) fun h1=>?_
  ·have h1:(n:Int)<1:=of_decide_eq_true h1
   refine brT ?_
   refine brT ?_
   refine no hbwY ?_
   unfold zaJ
   rw [← hnn,decide_eq_false (by omega:¬ 1≤n),Bool.false_and,Bool.and_false]
  have h1:¬ (n:Int)<1:=of_decide_eq_false h1
  refine biE (fun h2=>?_) fun h2=>?_
  ·have h2:(6:Int)<(n:Int):=of_decide_eq_true h2
   refine brT ?_
   refine no hbwY ?_
   unfold zaJ
   rw [← hnn,decide_eq_false (by omega:¬ n≤6),Bool.false_and,Bool.and_false,Bool.and_false]
  have h2:¬ (6:Int)<(n:Int):=of_decide_eq_false h2
  have hn1:decide (1≤n)=true:=decide_eq_true (by omega)
  have hn6:decide (n≤6)=true:=decide_eq_true (by omega)
  have fY:=zaa hbY fx
  refine⟨_,zac (zab fY) (i:=0) rfl,?_⟩
  refine Calls.mono (zgL (locs:=n) (hvX.below hbY).ev (by omega) (by omega)) ?_
  rintro e Z ⟨rfl,hbZ⟩
  have hbwZ:=hbwY.trans (hbZ.mono hbwY.size)
  refine biE (fun h3=>?_) fun h3=>?_
  ·have h3:zbA x.ev n=false:=by
    have h3:(!zbA x.ev n)=true:=h3
    simpa using h3
   refine no hbwZ ?_
   unfold zaJ
   rw [← hnn,h3,Bool.false_and,Bool.and_false,Bool.and_false,Bool.and_false]
  have h3:zbA x.ev n=true:=by
   have h3:(!zbA x.ev n)=false:=h3
   simpa using h3
  exact⟨(),(cvE rfl rfl),h3,by omega,zaa hbZ fY,hbwZ⟩
 rintro _ Z ⟨h3,⟨h1,h2⟩,fZ,hbwZ⟩
 clear fx hbX hbY hbwY hvX
 have hn1:decide (1≤n)=true:=decide_eq_true h1
 have hn6:decide (n≤6)=true:=decide_eq_true h2
 have hright:zaJ x=(zcq x&&(zcI x.po (poR x.ev)&&(zc1 x&&(zc9 x n&&zcE x)))):=by
  unfold zaJ
  rw [← hnn,hr0,hn1,hn6,h3];rfl
 have hrels:zcq x=(zeM x).all (okX x):=rfl
 refine⟨Unit,fun _=>⟨[(1,At0 L),(3,i64 (n:Nat))],[]⟩,fun _ U=>zcq x=true∧ExH U L x q c∧Below w.heap.size w U,?_,?_⟩
 ·refine⟨⟨by decide,by decide,rfl⟩,(List.range 6).map (fun i=>Value.pointer (some ⟨L,0+(1+49*i),none⟩)),rfl,?_⟩
  obtain⟨g,hg⟩:=nm (Z.heap.size)
  refine⟨Nat,fun k=>⟨[(1,At0 L),(3,i64 (n:Nat)),(32,.slice (some ⟨g,0,none⟩) 6 6),(33,i64 6),(34,i64 (k:Nat))],[]⟩,fun k U=>k≤6∧((zeM x).take k).all (okX x)=true∧U.heap[g]?=some (.cells ((List.range 6).map (fun i=>Value.pointer (some ⟨L,0+(1+49*i),none⟩))).toArray 75 (0,0))∧ExH U L x q c∧Below w.heap.size w U,fun k=>6-k,0,
   ⟨.cons rfl (.cons rfl (.cons (by rw [hg];rfl) (.cons rfl (.cons rfl .nil)))),rfl⟩,⟨Nat.zero_le _,rfl,by rw [hg];exact hnew Z _,hold _ fZ,hbwZ.alloc hbwZ.size _⟩,?_⟩
  clear hg fZ hbwZ
  rintro k U ⟨hk,hall,fg,fU,hbU⟩
  dsimp only
  refine biE (fun hc=>?_) fun hc=>?_
  ·have hc:(k:Int)<6:=of_decide_eq_true hc
   have hk6:k<6:=by omega
   obtain⟨r,hr⟩:=nm ((zeM x).getD k x.po)
   have hkl:k<(zeM x).length:=hk6
   have htk:(zeM x).take (k+1)=(zeM x).take k++[r]:=by
    rw [List.take_succ_eq_append_getElem hkl,hr,List.getD_eq_getElem?_getD,List.getElem?_eq_getElem hkl];rfl
   have hrw:WrdR r.to:=by rw [hr];exact hv.rel hk6
   have hcel:zay U ⟨L,0+(1+49*k),none⟩ (relC r):=by rw [hr];exact zfa fU hk6
   have dU:Below U.heap.size U U.drew:=(Below.refl _ _).drew
   have hrm:r∈zeM x:=by
    rw [hr,List.getD_eq_getElem?_getD,List.getElem?_eq_getElem hkl]
    exact List.getElem_mem hkl
   have bad:∀ {Z:World},Below w.heap.size w Z→okX x r=false→(Ending.returned (.bool false)=Ending.returned (.bool (zaJ x))∧Below w.heap.size w Z):=fun {Z} hb h=>no hb (by
    have:zcq x=false:=by
     rw [hrels,List.all_eq_false]
     exact⟨r,hrm,by rw [h];decide⟩
    rw [hright,this];rfl)
   refine⟨k,rfl,hk6,?_⟩
   refine⟨.pointer (some ⟨L,0+(1+49*k),none⟩),by
    have:=zac (zab fg) (i:=k*1) (v := .pointer (some ⟨L,0+(1+49*k),none⟩)) (by
     rw [Nat.mul_one]
     exact znU L hk6)
    exact this,?_⟩
   refine DrawE.ord [] [0,1,2,3,4,5,6,7,8,9,10,11,12,13,14] (by kernel_rfl) ?_
   refine⟨i64 r.n,zac (zaq dU hcel) (i:=0) rfl,?_⟩
   refine⟨_,zac (zab (hdr fU)) (i:=0) rfl,?_⟩
   refine biE (fun h4=>?_) fun h4=>?_
   ·have h4:(!decide (r.n=(x.ev.length:Int)))=true:=h4
    have h4:¬ r.n=(x.ev.length:Int):=by simpa using h4
    refine brT ?_
    exact bad (hbU.trans (dU.mono hbU.size)) (by unfold okX;rw [decide_eq_false h4];rfl)
   have h4:(!decide (r.n=(x.ev.length:Int)))=false:=h4
   have h4:r.n=(x.ev.length:Int):=by simpa using h4
   refine⟨relC r,zad _,zaq dU hcel,hlt (hdr fU),?_⟩
   refine Calls.mono (zaT hrw) ?_
   rintro e V ⟨rfl,hbV⟩
   refine⟨hbV,?_⟩
   have hbV2:=hbU.trans ((dU.trans hbV).mono hbU.size)
   refine biE (fun h5=>?_) fun h5=>?_
   ·have h5:okR r=false:=by
     have h5:(!okR r)=true:=h5
     simpa using h5
    exact bad hbV2 (by unfold okX;rw [h5,Bool.and_false])
   have h5:okR r=true:=by
    have h5:(!okR r)=false:=h5
    simpa using h5
   refine⟨((k+1:Nat):Int),(zaf (by omega)).trans (by omega),?_⟩
   refine⟨k+1,(cvE rfl rfl),⟨hk6,?_,zaa (dU.trans hbV) fg,zaa (dU.trans hbV) fU,hbV2⟩,by show 6-(k+1)<6-k;omega⟩
   rw [htk,List.all_append,hall]
   show (true&&(okX x r&&true))=true
   unfold okX
   rw [decide_eq_true h4,h5];rfl
  ·have hc:¬ (k:Int)<6:=of_decide_eq_false hc
   obtain rfl:k=6:=by omega
   exact⟨(),(cvE rfl rfl),hall,fU,hbU⟩
 rintro _ U ⟨hrr,fU,hbU⟩
 rw [hrr,Bool.true_and] at hright
 have hall:∀ r∈zeM x,r.n=x.ev.length∧okR r=true:=fun r hr=>by
  rw [hrels,List.all_eq_true] at hrr
  have:=hrr r hr
  unfold okX at this
  rw [Bool.and_eq_true,decide_eq_true_eq] at this
  exact this
 have hrf:=hall x.rf (by simp)
 have hrm:=hall x.rm (by simp)
 have hvU:=hv.below hbU
 have dU:Below U.heap.size U U.drew:=(Below.refl _ _).drew
 have hvD:=hvU.below dU
 have hbD:=hbU.trans (dU.mono hbU.size)
 refine DrawE.ord [] [0,1,2,3,4,5,6,7,8,9,10,11,12,13,14,15,16] (by kernel_rfl) ?_
 refine⟨relC x.po,zad _,zfa (hdr fU) (i:=0) (by decide),hlt (hdr fU),?_⟩
 refine⟨_,zac (zab (hdr fU)) (i:=0) rfl,?_⟩
 refine Calls.mono (zdF hvD.ev (by omega)) ?_
 rintro e V ⟨rfl,hbV⟩
 refine⟨hbV,?_⟩
 have hbV2:=hbD.trans (hbV.mono hbD.size)
 have fV:=zaa hbV (hdr fU)
 have hvV:=hvD.below hbV
 refine⟨_,fun w=>zlp _ _ x.po (poR x.ev) w,?_⟩
 refine biE (fun h4=>?_) fun h4=>?_
 ·have h4:zcI x.po (poR x.ev)=true:=h4
  rw [h4,Bool.true_and] at hright
  refine Calls.mono (zkL fV hvV hrf.1 hrf.2 (hT.below hbV2)) ?_
  rintro e T ⟨rfl,hbT⟩
  refine⟨hbT,?_⟩
  have hbT2:=hbV2.trans (hbT.mono hbV2.size)
  refine biE (fun h5=>?_) fun h5=>?_
  ·have h5:zc1 x=true:=h5
   rw [h5,Bool.true_and] at hright
   refine Calls.mono (zlC (locs:=n) (zaa hbT fV) (hvV.below hbT) (by omega) (zl0 h3 hnl (by omega)) (hT.below hbT2)) ?_
   rintro e R ⟨rfl,hbR⟩
   refine⟨hbR,?_⟩
   have hbR2:=hbT2.trans (hbR.mono hbT2.size)
   refine biE (fun h6=>?_) fun h6=>?_
   ·have h6:zc9 x n=true:=h6
    rw [h6,Bool.true_and] at hright
    refine Calls.mono (zj0 (zaa hbR (zaa hbT fV)) ((hvV.below hbT).below hbR) hrm.1 hrm.2 (hT.below hbR2)) ?_
    rintro e Q ⟨rfl,hbQ⟩
    exact⟨hbQ,rb hright.symm,hbR2.trans (hbQ.mono hbR2.size)⟩
   ·have h6:zc9 x n=false:=h6
    rw [h6,Bool.false_and] at hright
    exact⟨rb hright.symm,hbR2⟩
  ·have h5:zc1 x=false:=h5
   rw [h5,Bool.false_and] at hright
   refine brF ?_
   exact⟨rb hright.symm,hbT2⟩
 ·have h4:zcI x.po (poR x.ev)=false:=h4
  rw [h4,Bool.false_and] at hright
  refine brF ?_
  refine brF ?_
  exact⟨rb hright.symm,hbV2⟩
end
theorem ze1 {a b:RelD} {f:Nat→Nat} (h:a.n=b.n→okR a=true→okR b=true→∀ i,i<48→f i<2^64):WrdR (comb a b f).1.to:=by
 unfold comb
 split
 ·rename_i hc
  rw [Bool.and_eq_true,Bool.and_eq_true,decide_eq_true_eq] at hc
  exact zdq fun i _ hi=>h hc.1 hc.2.1 hc.2.2 i hi
 ·exact fun i _=>(by show 0<2^64;decide)
theorem zkm {a b:RelD} (ha:WrdR a.to) (hb:WrdR b.to):WrdR (zbQ a b).1.to:=ze1 fun _ _ _ i hi=>Nat.or_lt_two_pow (ha i hi) (hb i hi)
theorem zjj {a b:RelD} (ha:WrdR a.to):WrdR (zb6 a b).1.to:=ze1 fun _ _ _ i hi=>Nat.lt_of_le_of_lt Nat.and_le_left (ha i hi)
theorem zcT {a b:RelD} (ha:WrdR a.to) (hb:WrdR b.to):WrdR (zbD a b).1.to:=ze1 fun _ h _ i hi=>by
 unfold zeD
 exact zi5 hb _ _ (by decide) fun j hj=>(zh4 h ha hi j hj).2
theorem zfn {a b:RelD} (ha:WrdR a.to):WrdR (zaV a b).1.to:=ze1 fun _ _ _ i hi=>by
 rw [zd7]
 exact zeV (ha i hi)
theorem zdT (k:Nat) (p:Nat→Bool):rowP (k+1) p=if p k=true then rowP k p|||2^k else rowP k p:=by
 unfold rowP
 rw [List.range_succ,List.foldl_append];rfl
theorem ze9 (p:Nat→Bool):∀ k,k≤64→rowP k p<2^64
 | 0,_=>by show 0<_;decide
 | k+1,h=>by
  rw [zdT]
  split
  ·exact Nat.or_lt_two_pow (ze9 p k (by omega)) (zaG (by omega))
  ·exact ze9 p k (by omega)
theorem zdZ {n:Nat} {p:Nat→Nat→Bool} (hn:n≤64):WrdR (zde n p).to:=zdq fun i _ _=>ze9 _ n hn
def zbW (n:Nat) (p:Nat→Nat→Bool) (a k:Nat):Nat→Nat:=fun i=>if i<a then rowP n (p i) else if i=a then rowP k (p a) else 0
theorem ziJ (n:Nat) (p:Nat→Nat→Bool) (a k:Nat):zbW n p a k a=rowP k (p a):=by
 unfold zbW
 rw [if_neg (by omega),if_pos rfl]
theorem zkH {n:Nat} {p:Nat→Nat→Bool} {a k:Nat} (h:p a k=true):upd (zbW n p a k) a (zbW n p a k a|||2^k)=zbW n p a (k+1):=by
 funext i
 by_cases hi:i=a
 ·subst hi
  rw [za4,ziJ,ziJ,zdT,if_pos h]
 ·rw [zcm _ _ hi]
  unfold zbW
  rw [if_neg hi,if_neg hi]
theorem zjI {n:Nat} {p:Nat→Nat→Bool} {a k:Nat} (h:p a k=false):zbW n p a k=zbW n p a (k+1):=by
 have e:rowP (k+1) (p a)=rowP k (p a):=by rw [zdT,if_neg (by rw [h];decide)]
 funext i
 unfold zbW
 rw [e]
theorem zjJ (n:Nat) (p:Nat→Nat→Bool) (a:Nat):zbW n p a n=zbW n p (a+1) 0:=by
 funext i
 unfold zbW
 by_cases h1:i<a
 ·rw [if_pos h1,if_pos (by omega)]
 ·by_cases h2:i=a
  ·subst h2
   rw [if_neg h1,if_pos rfl,if_pos (by omega)]
  ·rw [if_neg h1,if_neg h2,if_neg (by omega)]
   split
   ·rfl
   ·rfl
theorem zjH (n:Nat) (p:Nat→Nat→Bool):zbW n p 0 0=fun _=>0:=by
 funext i
 unfold zbW
 rw [if_neg (by omega)]
 split <;> rfl
theorem zkI (n:Nat) (p:Nat→Nat→Bool):zbW n p n 0=(zde n p).to:=by
 funext i
 unfold zbW zde zbu
 show _=if i<n then _ else 0
 by_cases h:i<n
 ·rw [if_pos h,if_pos h]
 ·rw [if_neg h,if_neg h]
  split <;> rfl
theorem zkG {n:Nat} {p:Nat→Nat→Bool} {a k:Nat} (hn:n≤64) (hk:k≤64):WrdR (zbW n p a k):=fun i _=>by
 unfold zbW
 split
 ·exact ze9 _ n hn
 ·split
  ·exact ze9 _ k hk
  ·decide
theorem zlO {s b:Nat}:decide ((((s/2^b&&&1:Nat):Nat):Int)=1)=s.testBit b:=by
 rw [zix]
 cases s.testBit b <;> rfl
section
variable {w:World}
theorem zaB {b o a d:Nat} {r:RelD} (hc:∀ i,i<48→w.cell? ⟨b,o+1+i*1,none⟩=some (s64 (r.to i))) (hr:WrdR r.to) (ha:a<48) (hd:d<48) :
  Calls Tryz.prog 67 #[.pointer (some ⟨b,o,none⟩),i64 (a:Nat),i64 (d:Nat)] w fun e w'=>e = .returned (.bool (hasM r a d))∧w=w':=by
 refine zae (S:=sg 17) (sgOk _) (args:=[.pointer (some ⟨b,o,none⟩),i64 (a:Nat),i64 (d:Nat)]) Tryz.func67 rfl rfl (Nat.le_of_ble_eq_true rfl) rfl ?_
 refine⟨a,rfl,ha,?_⟩
 refine⟨_,hc a ha,?_⟩
 refine⟨by omega,_,ze6 (a:=r.to a) (k:=d) (by omega),?_⟩
 refine⟨_,zbv (a:=r.to a/2^d) (b:=1) (Nat.lt_of_le_of_lt (Nat.div_le_self _ _) (hr a ha)) (by decide),?_⟩
 exact⟨rb zlO,rfl⟩
theorem ze4 {e:Ev}:Calls Tryz.prog 101 #[.agg (evE.enc e).toArray] w fun r w'=>r = .returned (.bool (decide (e.k=1)||decide (e.k=2)))∧Below w.heap.size w w':=by
 refine zae (S:=sg 11) (sgOk _) (args:=[.agg (evE.enc e).toArray]) Tryz.func101 rfl rfl (Nat.le_of_ble_eq_true rfl) rfl ?_
 have f:=hnew w (.cells (evE.enc e).toArray 54)
 have hb:Below w.heap.size w (w.alloc (.cells (evE.enc e).toArray 54)):=(Below.refl _ w).alloc (Nat.le_refl _) _
 refine⟨u8 e.k,zac (zab f) (i:=1) rfl,?_⟩
 refine biE (fun h=>?_) fun h=>?_
 ·have h:e.k=1:=za6.1 (of_decide_eq_true h)
  exact⟨rb (by rw [decide_eq_true h];rfl),hb⟩
 ·have h:¬ e.k=1:=fun e2=>(of_decide_eq_false h) (by rw [e2];rfl)
  refine⟨u8 e.k,zac (zab f) (i:=1) rfl,?_⟩
  refine⟨rb ?_,hb⟩
  rw [decide_eq_false h,Bool.false_or]
  exact decide_eq_decide.2 (za6 (x:=e.k) (y:=2))
theorem zhc {n g:Nat} {caps:Array Value} {p:Nat→Nat→Bool} (hn:n≤48) (hok:zbs (sg 0) g=true)
  (hp:∀ a d X,a<n→d<n→Below w.heap.size w X→Calls Tryz.prog g (i64 (a:Nat)::i64 (d:Nat)::caps.toList).toArray X fun e Y=>e = .returned (.bool (p a d))∧Below X.heap.size X Y) :
  Calls Tryz.prog 61 #[i64 n,.func (.func g) #[] caps] w fun e w'=>e = .returned (.agg (relC (zde n p)).toArray)∧Below w.heap.size w w':=by
 refine zah (S:=sg 34) (sgOk _) (args:=[i64 n,.func (.func g) #[] caps]) (.c .p (.c .p (.c .p .p))) Tryz.func61 rfl rfl (Nat.le_of_ble_eq_true rfl) rfl ?_
 obtain⟨L,hL⟩:=nm (w.heap.size)
 refine⟨Unit,fun _=>⟨[(0,i64 n),(1,.func (.func g) #[] caps),(4,At0 L)],[]⟩,fun _ X=>RelH X L zas∧X.heap.size=L+1∧Below w.heap.size w X,?_,?_⟩
 ·exact⟨(),⟨.cons rfl (.cons rfl (.cons (by rw [hL];rfl) .nil)),rfl⟩,by rw [hL];exact hnew w _,by rw [hL];exact World.size_alloc _ _,(Below.refl _ w).alloc (Nat.le_refl _) _⟩
 rintro _ X ⟨f0,sX,hbX⟩
 refine⟨Unit,fun _=>⟨[(0,i64 n),(1,.func (.func g) #[] caps),(4,At0 L),(5,At0 (L+1))],[]⟩,fun _ Y=>RelH Y (L+1) ⟨n,zbW n p 0 0⟩∧Y.heap.size=L+2∧Below X.heap.size X Y,?_,?_⟩
 ·refine⟨relC ⟨n,fun _=>0⟩,by kernel_rfl,?_⟩
  refine zap (X:=X) (v := .agg (relC ⟨n,fun _=>0⟩).toArray) (ttOk.get 27 _ rfl) (zad _) (by kernel_rfl) (zav _) fun Z hbZ fZ sZ=>?_
  rw [sX] at fZ sZ
  exact⟨(),⟨.cons rfl (.cons rfl (.cons rfl (.cons (by rw [← sX];rfl) .nil))),rfl⟩,by rw [zjH];exact fZ,sZ,hbZ⟩
 rintro _ Y ⟨f1,sY,hbY⟩
 have hbwY:=hbX.trans (hbY.mono hbX.size)
 have f0:=zaa hbY f0
 refine⟨Unit,fun _=>⟨[(4,At0 L),(5,At0 (L+1))],[]⟩,fun _ Z=>RelH Z (L+1) (zde n p)∧RelH Z L zas∧Below w.heap.size w Z,?_,?_⟩
 ·refine⟨Nat,fun a=>⟨[(0,i64 n),(1,.func (.func g) #[] caps),(4,At0 L),(5,At0 (L+1)),(10,i64 n),(11,i64 (a:Nat))],[]⟩,fun a Z=>a≤n∧RelH Z (L+1) ⟨n,zbW n p a 0⟩∧RelH Z L zas∧Below w.heap.size w Z,fun a=>n-a,0,
   (cvE rfl rfl),⟨Nat.zero_le _,f1,f0,hbwY⟩,?_⟩
  rintro a Z ⟨ha,f1,f0,hbZ⟩
  dsimp only at f1 ⊢
  refine biE (fun hc=>?_) fun hc=>?_
  ·have hc:(a:Int)<(n:Int):=of_decide_eq_true hc
   have han:a<n:=by omega
   refine⟨Nat,fun d=>⟨[(0,i64 n),(1,.func (.func g) #[] caps),(4,At0 L),(5,At0 (L+1)),(6,i64 (a:Nat)),(10,i64 n),(11,i64 (a:Nat)),(14,i64 n),(15,i64 (d:Nat))],[]⟩,fun d V=>d≤n∧RelH V (L+1) ⟨n,zbW n p a d⟩∧RelH V L zas∧Below w.heap.size w V,fun d=>n-d,0,
    (cvE rfl rfl),⟨Nat.zero_le _,f1,f0,hbZ⟩,?_⟩
   clear f1 f0 hbZ
   rintro d V ⟨hd,f1,f0,hbV⟩
   dsimp only at f1 ⊢
   refine biE (fun hc=>?_) fun hc=>?_
   ·have hc:(d:Int)<(n:Int):=of_decide_eq_true hc
    have hdn:d<n:=by omega
    refine zgO hok (hp a d V han hdn hbV) ?_
    rintro e U ⟨rfl,hbU⟩
    refine⟨_,rfl,?_⟩
    have f1:=zaa hbU f1
    have f0:=zaa hbU f0
    have hbU2:=hbV.trans (hbU.mono hbV.size)
    have sU:=hbU2.size
    refine biE (fun h=>?_) fun h=>?_
    ·have h:p a d=true:=h
     have hR:RelAt U (L+1) 0 27 [] [] ⟨n,zbW n p a d⟩:=⟨rfl,by simpa using f1⟩
     have dU:Below U.heap.size U U.drew:=(Below.refl _ _).drew
     have ha48:a<48:=by omega
     refine DrawE.ord [9] [0,1,2,3,4,5,6,7,8,9] (by kernel_rfl) ?_
     refine⟨a,rfl,ha48,?_⟩
     refine⟨s64 (zbW n p a d a),(hR.same (Y:=U.drew) rfl).cell ha48,?_⟩
     refine⟨by omega,_,zbB (e:=d) (by omega),?_⟩
     refine⟨_,zb9 (zkG (by omega) (by omega) a ha48) (zaG (by omega)),?_⟩
     refine⟨a,rfl,ha48,?_⟩
     refine zat (ttOk.get 24 _ rfl) (hR.same (Y:=U.drew) rfl).cells (o:=0+1+a*1) (v:=s64 (zbW n p a d a|||2^d)) rfl rfl (by rw [hR.len];omega) rfl fun S fS gS sS=>?_
     rw [hR.set ha48] at fS
     have e5:upd (zbW n p a d) a (zbW n p a d a|||2^d)=zbW n p a (d+1):=zkH h
     dsimp only at fS
     rw [e5] at fS
     have gS2:U.grownBy S (some (L+1)):=zag (zak dU) gS
     refine⟨((d+1:Nat):Int),(zaf (by omega)).trans (by omega),?_⟩
     exact⟨d+1,(cvE rfl rfl),⟨hdn,by simpa using fS,(gS2.block L (hlt f0) (by simp)).trans f0,hbU2.trans (zan gS2 sU (by omega))⟩,by show n-(d+1)<n-d;omega⟩
    ·have h:p a d=false:=h
     refine⟨((d+1:Nat):Int),(zaf (by omega)).trans (by omega),?_⟩
     exact⟨d+1,(cvE rfl rfl),⟨hdn,by rw [← zjI h];exact f1,f0,hbU2⟩,by show n-(d+1)<n-d;omega⟩
   ·have hc:¬ (d:Int)<(n:Int):=of_decide_eq_false hc
    obtain rfl:d=n:=by omega
    refine⟨((a+1:Nat):Int),(zaf (by omega)).trans (by omega),?_⟩
    exact⟨a+1,(cvE rfl rfl),⟨han,by rw [← zjJ];exact f1,f0,hbV⟩,by show d-(a+1)<d-a;omega⟩
  ·have hc:¬ (a:Int)<(n:Int):=of_decide_eq_false hc
   obtain rfl:a=n:=by omega
   rw [zkI] at f1
   exact⟨(),(cvE rfl rfl),f1,f0,hbZ⟩
 rintro _ Z ⟨f1,f0,hbZ⟩
 refine⟨relC (zde n p),zad _,zab f1,hlt f1,?_⟩
 refine zar (v := .agg (relC (zde n p)).toArray) (ttOk.get 27 _ rfl) f0 (zad _) (zad _) (zav _) ?_
 exact⟨relC (zde n p),zad _,zab (zal f0),rfl,zaj hbZ (by omega) _⟩
def relE:Enc RelD:=⟨relC,49,zad,by decide,fun a u hu=>List.all_eq_true.1 (zav a) u hu⟩
theorem zdt {l:List RelD}:∀ {r:RelD},WrdR r.to→(∀ o∈l,WrdR o.to)→WrdR (zaZ r l).to:=by
 induction l with
 | nil=>exact fun h _=>h
 | cons o l ih=>exact fun h hl=>ih (zkm h (hl o List.mem_cons_self)) fun x hx=>hl x (List.mem_cons_of_mem _ hx)
theorem zhO {r:RelD} {l:List RelD} {pm:Option Addr} {cm:Nat} (hr:WrdR r.to) (hl:SlR relE w pm l) (hw:∀ o∈l,WrdR o.to) (hn:l.length≤1000) :
  Calls Tryz.prog 96 #[.agg (relC r).toArray,.slice pm l.length cm] w fun e w'=>e = .returned (.agg (relC (zaZ r l)).toArray)∧Below w.heap.size w w':=by
 refine zah (S:=sg 21) (sgOk _) (args:=[.agg (relC r).toArray,.slice pm l.length cm]) (.c .p (.c .p .p)) Tryz.func96 rfl rfl (Nat.le_of_ble_eq_true rfl) rfl ?_
 obtain⟨L,hL⟩:=nm (w.heap.size)
 refine⟨Unit,fun _=>⟨[(1,.slice pm l.length cm),(2,At0 L),(4,At0 (L+1))],[]⟩,fun _ X=>RelH X L r∧RelH X (L+1) zas∧Below w.heap.size w X,?_,?_⟩
 ·have s1:=World.size_alloc w (.cells (relC r).toArray 27)
  have h2:=hnew (w.alloc (.cells (relC r).toArray 27)) (.cells (relC zas).toArray 27)
  rw [s1] at h2
  refine⟨(),⟨.cons rfl (.cons (by rw [hL];rfl) (.cons (by rw [hL,← s1];rfl) .nil)),rfl⟩,by rw [hL];exact hold _ (hnew w _),by rw [hL];exact h2,((Below.refl _ w).alloc (Nat.le_refl _) _).alloc (by simp) _⟩
 rintro _ X ⟨f0,f1,hbX⟩
 refine⟨Unit,fun _=>⟨[(2,At0 L),(4,At0 (L+1))],[]⟩,fun _ Z=>RelH Z L (zaZ r l)∧RelH Z (L+1) zas∧Below w.heap.size w Z,?_,?_⟩
 ·refine⟨Nat,fun k=>⟨[(2,At0 L),(4,At0 (L+1)),(7,.slice pm l.length cm),(8,i64 l.length),(9,i64 (k:Nat))],[]⟩,fun k Z=>k≤l.length∧RelH Z L (zaZ r (l.take k))∧RelH Z (L+1) zas∧Below w.heap.size w Z,fun k=>l.length-k,0,
   (cvE rfl rfl),⟨Nat.zero_le _,f0,f1,hbX⟩,?_⟩
  clear f0 f1 hbX
  rintro k Z ⟨hk,f0,f1,hbZ⟩
  dsimp only
  have hZs:=hbZ.size
  refine biE (fun hc=>?_) fun hc=>?_
  ·have hc:(k:Int)<(l.length:Int):=of_decide_eq_true hc
   have hkl:k<l.length:=by omega
   obtain⟨b,o,rfl,hb,hat⟩:=hl.at hkl
   obtain⟨t,ht⟩:∃ t,l[k]=t:=⟨_,rfl⟩
   have htm:t∈l:=by rw [← ht];exact List.getElem_mem hkl
   have htk:zaZ r (l.take (k+1))=(zbQ (zaZ r (l.take k)) t).1:=by
    unfold zaZ
    rw [List.take_succ_eq_append_getElem hkl,ht,List.foldl_append];rfl
   have hut:WrdR (zaZ r (l.take k)).to:=zdt hr fun o ho=>hw o (List.mem_of_mem_take ho)
   refine⟨k,rfl,hkl,?_⟩
   refine⟨relC t,zad _,by rw [← ht];exact zaq hbZ (hat k hkl),Nat.lt_of_lt_of_le hb hZs,?_⟩
   refine zap (X:=Z) (v := .agg (relC t).toArray) (ttOk.get 27 _ rfl) (zad _) (by kernel_rfl) (zav _) fun Y hbY fY sY=>?_
   have fY:RelH Y Z.heap.size t:=fY
   have f0:=zaa hbY f0
   have f1:=zaa hbY f1
   refine⟨relC (zaZ r (l.take k)),zad _,zab f0,hlt f0,?_⟩
   refine⟨relC t,zad _,zab fY,hlt fY,?_⟩
   refine Calls.mono (zlU hut (hw t htm)) ?_
   rintro e V ⟨rfl,hbV⟩
   have f0:=zaa hbV f0
   have f1:=zaa hbV f1
   refine zar (v := .agg (relC (zbQ (zaZ r (l.take k)) t).1).toArray) (ttOk.get 27 _ rfl) f0 (zad _) (zad _) (zav _) ?_
   refine⟨((k+1:Nat):Int),(zaf (by omega)).trans (by omega),?_⟩
   have hbV2:=(hbZ.trans (hbY.mono hZs)).trans (hbV.mono (by have:=hbY.size;omega))
   exact⟨k+1,(cvE rfl rfl),⟨hkl,by rw [htk];exact zal f0,(zam (by omega)).trans f1,zaj hbV2 (by omega) _⟩,by show l.length-(k+1)<l.length-k;omega⟩
  ·have hc:¬ (k:Int)<(l.length:Int):=of_decide_eq_false hc
   obtain rfl:k=l.length:=by omega
   rw [List.take_length] at f0
   exact⟨(),(cvE rfl rfl),f0,f1,hbZ⟩
 rintro _ Z ⟨f0,f1,hbZ⟩
 refine⟨relC (zaZ r l),zad _,zab f0,hlt f0,?_⟩
 refine zar (v := .agg (relC (zaZ r l)).toArray) (ttOk.get 27 _ rfl) f1 (zad _) (zad _) (zav _) ?_
 exact⟨relC (zaZ r l),zad _,zab (zal f1),rfl,zaj hbZ (by omega) _⟩
end
section
variable {w:World} {b c:Nat} {x:ExD} {q:Option Addr}
theorem za9 {X:World} (fx:zay X ⟨b,0,none⟩ (exC x q c)):X.cell? ⟨b,0+0,none⟩=some (.slice q x.ev.length c):=zac fx (i:=0) rfl
theorem zgd {X:World} {o:Nat} {r:RelD} (fx:zay X ⟨b,0,none⟩ (exC x q c)) (h:∃ A T,A.length=o∧exC x q c=A++(relC r++T)):∀ i,i<48→X.cell? ⟨b,o+1+i*1,none⟩=some (s64 (r.to i)):=by
 intro i hi
 obtain⟨A,T,hA,hE⟩:=h
 have:(exC x q c)[o+1+i*1]?=some (s64 (r.to i)):=by
  rw [hE,Nat.mul_one,Nat.add_assoc,za8 hA,List.getElem?_append_left (by rw [zad];omega),zfb r hi]
 have h2:=zac fx this
 rw [Nat.zero_add] at h2
 exact h2
theorem znl (x:ExD) (q:Option Addr) (c:Nat):∃ A T,A.length=1∧exC x q c=A++(relC x.po++T):=by
 obtain⟨A,T,hA,hE⟩:=zmH x q c []
 exact⟨A,T,hA,by rw [← hE,List.append_nil]⟩
theorem zpC (x:ExD) (q:Option Addr) (c:Nat):∃ A T,A.length=148∧exC x q c=A++(relC x.dt++T):=by
 obtain⟨A,T,hA,hE⟩:=zmI x q c []
 exact⟨A,T,hA,by rw [← hE,List.append_nil]⟩
theorem zpD (x:ExD) (q:Option Addr) (c:Nat):∃ A T,A.length=197∧exC x q c=A++(relC x.ct++T):=by
 obtain⟨A,T,hA,hE⟩:=zmJ x q c []
 exact⟨A,T,hA,by rw [← hE,List.append_nil]⟩
theorem znk (x:ExD) (q:Option Addr) (c:Nat):∃ A T,A.length=246∧exC x q c=A++(relC x.rm++T):=by
 obtain⟨A,T,hA,hE⟩:=zmG x q c []
 exact⟨A,T,hA,by rw [← hE,List.append_nil]⟩
theorem zjq (x:ExD) (i:Nat):(decide ((evA x i).k=1)||decide ((evA x i).k=2))=accA x i:=rfl
theorem zcD {X:World} (hv:SlR evE X q x.ev) {a:Nat} (ha:a<x.ev.length):∃ bq oq,q=some ⟨bq,oq,none⟩∧bq<X.heap.size∧zay X ⟨bq,oq+a*7,none⟩ (evE.enc (evA x a)):=zdG hv ha
theorem zkD {a d:Nat} (fx:zay w ⟨b,0,none⟩ (exC x q c)) (hv:SlR evE w q x.ev) (ha:a<x.ev.length) (hd:d<x.ev.length) :
  Calls Tryz.prog 63 #[At0 b,i64 (a:Nat),i64 (d:Nat)] w fun e w'=>e = .returned (.bool (zcW x a d))∧Below w.heap.size w w':=by
 refine zah (S:=sg 44) (sgOk _) (args:=[At0 b,i64 (a:Nat),i64 (d:Nat)]) (.c .p .p) Tryz.func63 rfl rfl (Nat.le_of_ble_eq_true rfl) rfl ?_
 refine⟨Unit,fun _=>⟨[(0,At0 b),(1,i64 (a:Nat)),(2,i64 (d:Nat))],[]⟩,fun _ X=>w=X,⟨(),(cvE rfl rfl),rfl⟩,?_⟩
 rintro _ _ rfl
 obtain⟨bq,oq,hqe,hb,hat⟩:=zcD hv ha
 obtain⟨bq2,oq2,hqe2,hb2,hat2⟩:=zcD hv hd
 rw [hqe] at hqe2
 simp only [Option.some.injEq,Addr.mk.injEq,and_true] at hqe2
 rw [← hqe2.1,← hqe2.2] at hat2
 subst hqe
 have dw:Below w.heap.size w w.drew:=(Below.refl _ _).drew
 refine DrawE.ord [] [0,1,2,3,4,5,6,7,8,9,10,11,12,13,14,15,16,17,18,19,20,21,22,23,24,25,26,27,28,29,30,31,32,33,34,35,36,37] (by kernel_rfl) ?_
 refine⟨_,za9 (zaq dw fx),?_⟩
 refine⟨a,rfl,ha,?_⟩
 refine⟨evE.enc (evA x a),rfl,zaq dw hat,Nat.lt_of_lt_of_le hb dw.size,?_⟩
 refine Calls.mono ze4 ?_
 rintro e X ⟨rfl,hbX⟩
 refine⟨hbX,?_⟩
 have bX:=dw.trans hbX
 rw [zjq]
 refine biE (fun h1=>?_) fun h1=>?_
 ·have h1:accA x a=true:=h1
  refine⟨_,za9 (zaq bX fx),?_⟩
  refine⟨d,rfl,hd,?_⟩
  refine⟨evE.enc (evA x d),rfl,zaq bX hat2,Nat.lt_of_lt_of_le hb bX.size,?_⟩
  refine Calls.mono ze4 ?_
  rintro e Y ⟨rfl,hbY⟩
  refine⟨hbY,?_⟩
  have bY:=bX.trans (hbY.mono bX.size)
  rw [zjq]
  refine biE (fun h2=>?_) fun h2=>?_
  ·have h2:accA x d=true:=h2
   refine⟨_,za9 (zaq bY fx),?_⟩
   refine⟨a,rfl,ha,?_⟩
   refine⟨u8 (evA x a).l,by have:=zac (zaq bY hat) (i:=2) (v:=u8 (evA x a).l) rfl;exact this,?_⟩
   refine⟨_,za9 (zaq bY fx),?_⟩
   refine⟨d,rfl,hd,?_⟩
   refine⟨u8 (evA x d).l,by have:=zac (zaq bY hat2) (i:=2) (v:=u8 (evA x d).l) rfl;exact this,?_⟩
   refine⟨rb ?_,bY⟩
   unfold zcW
   rw [h1,h2,Bool.true_and,Bool.true_and]
   exact decide_eq_decide.2 za6
  ·have h2:accA x d=false:=h2
   refine⟨rb ?_,bY⟩
   unfold zcW
   rw [h1,h2];rfl
 ·have h1:accA x a=false:=h1
  refine brF ?_
  refine⟨rb ?_,bX⟩
  unfold zcW
  rw [h1];rfl
end
structure ScnV (X:World) (b:Nat) (x:ExD) (q:Option Addr) (c:Nat) (f l s:RelD):Prop where
 h:X.heap[b]?=some (.cells (exC x q c++(relC f++(relC l++relC s))).toArray 142 (0,0))
 v:ExV X x q
 wf:WrdR f.to
 wl:WrdR l.to
 ws:WrdR s.to
section
variable {w:World} {b c:Nat} {x:ExD} {q:Option Addr} {f l s:RelD}
theorem ScnV.below {X Y:World} (h:ScnV X b x q c f l s) (hb:Below X.heap.size X Y):ScnV Y b x q c f l s:=⟨zaa hb h.h,h.v.below hb,h.wf,h.wl,h.ws⟩
theorem ScnV.cells {X:World} (h:ScnV X b x q c f l s):zay X ⟨b,0,none⟩ (exC x q c):=by
 have:=zaC (n:=0) (m:=333) (zab h.h)
 have e:((exC x q c++(relC f++(relC l++relC s))).toArray.toList.drop 0).take 333=exC x q c:=by
  show (exC x q c++_).take 333=_
  rw [List.take_append_of_le_length (by rw [zau];decide),List.take_of_length_le (by rw [zau];decide)]
 rw [e] at this
 exact this
theorem ScnV.at {X:World} {o:Nat} {r:RelD} (h:ScnV X b x q c f l s) (hr:∃ A T,A.length=o∧exC x q c++(relC f++(relC l++relC s))=A++(relC r++T)):∀ i,i<48→X.cell? ⟨b,o+1+i*1,none⟩=some (s64 (r.to i)):=by
 intro i hi
 obtain⟨A,T,hA,hE⟩:=hr
 have:(exC x q c++(relC f++(relC l++relC s)))[o+1+i*1]?=some (s64 (r.to i)):=by
  rw [hE,Nat.mul_one,Nat.add_assoc,za8 hA,List.getElem?_append_left (by rw [zad];omega),zfb r hi]
 have h2:=zac (zab h.h) this
 rw [Nat.zero_add] at h2
 exact h2
theorem ScnV.full {X:World} (h:ScnV X b x q c f l s):∀ i,i<48→X.cell? ⟨b,0+333+1+i*1,none⟩=some (s64 (f.to i)):=h.at ⟨exC x q c,relC l++relC s,zau _ _ _,rfl⟩
theorem ScnV.loads {X:World} (h:ScnV X b x q c f l s):∀ i,i<48→X.cell? ⟨b,0+382+1+i*1,none⟩=some (s64 (l.to i)):=h.at ⟨exC x q c++relC f,relC s,by rw [List.length_append,zau,zad],by rw [List.append_assoc]⟩
theorem ScnV.stores {X:World} (h:ScnV X b x q c f l s):∀ i,i<48→X.cell? ⟨b,0+431+1+i*1,none⟩=some (s64 (s.to i)):=h.at ⟨exC x q c++(relC f++relC l),[],by rw [List.length_append,List.length_append,zau,zad,zad],by simp only [List.append_assoc,List.append_nil]⟩
theorem zfd {a:Nat} (h:ScnV w b x q c f l s) (ha:a<x.ev.length):Calls Tryz.prog 134 #[At0 b,i64 (a:Nat)] w fun e w'=>e = .returned (.bool (isR x a))∧w=w':=by
 refine zae (S:=sg 15) (sgOk _) (args:=[At0 b,i64 (a:Nat)]) Tryz.func134 rfl rfl (Nat.le_of_ble_eq_true rfl) rfl ?_
 obtain⟨bq,oq,hqe,hb,hat⟩:=zcD h.v.ev ha
 have fx:=h.cells
 subst hqe
 refine⟨_,za9 fx,?_⟩
 refine⟨a,rfl,ha,?_⟩
 refine⟨u8 (evA x a).k,by have:=zac hat (i:=1) (v:=u8 (evA x a).k) rfl;exact this,?_⟩
 exact⟨rb (decide_eq_decide.2 (za6 (x:=(evA x a).k) (y:=1))),rfl⟩
theorem zbl {a:Nat} (h:ScnV w b x q c f l s) (ha:a<x.ev.length):Calls Tryz.prog 135 #[At0 b,i64 (a:Nat)] w fun e w'=>e = .returned (.bool (isW x a))∧w=w':=by
 refine zae (S:=sg 15) (sgOk _) (args:=[At0 b,i64 (a:Nat)]) Tryz.func135 rfl rfl (Nat.le_of_ble_eq_true rfl) rfl ?_
 obtain⟨bq,oq,hqe,hb,hat⟩:=zcD h.v.ev ha
 have fx:=h.cells
 subst hqe
 refine⟨_,za9 fx,?_⟩
 refine⟨a,rfl,ha,?_⟩
 refine⟨u8 (evA x a).k,by have:=zac hat (i:=1) (v:=u8 (evA x a).k) rfl;exact this,?_⟩
 exact⟨rb (decide_eq_decide.2 (za6 (x:=(evA x a).k) (y:=2))),rfl⟩
theorem zdQ {a:Nat} {md:UInt8} (h:ScnV w b x q c f l s) (ha:a<x.ev.length):Calls Tryz.prog 139 #[At0 b,i64 (a:Nat),u8 md] w fun e w'=>e = .returned (.bool (zaH x a md))∧w=w':=by
 refine zae (S:=sg 30) (sgOk _) (args:=[At0 b,i64 (a:Nat),u8 md]) Tryz.func139 rfl rfl (Nat.le_of_ble_eq_true rfl) rfl ?_
 obtain⟨bq,oq,hqe,hb,hat⟩:=zcD h.v.ev ha
 have fx:=h.cells
 subst hqe
 refine⟨_,za9 fx,?_⟩
 refine⟨a,rfl,ha,?_⟩
 refine⟨u8 (evA x a).m,by have:=zac hat (i:=4) (v:=u8 (evA x a).m) rfl;exact this,?_⟩
 refine biE (fun h1=>?_) fun h1=>?_
 ·have h1:(evA x a).m=md:=za6.1 (of_decide_eq_true h1)
  exact⟨rb (by unfold zaH;rw [decide_eq_true h1];rfl),rfl⟩
 ·have h1:¬ (evA x a).m=md:=fun e=>(of_decide_eq_false h1) (by rw [e])
  refine⟨_,za9 fx,?_⟩
  refine⟨a,rfl,ha,?_⟩
  refine⟨u8 (evA x a).m,by have:=zac hat (i:=4) (v:=u8 (evA x a).m) rfl;exact this,?_⟩
  exact⟨rb (by unfold zaH;rw [decide_eq_false h1,Bool.false_or];exact decide_eq_decide.2 (za6 (x:=(evA x a).m) (y:=3))),rfl⟩
theorem zlL {a d:Nat} (h:ScnV w b x q c f l s) (ha:a<x.ev.length) (hd:d<x.ev.length):Calls Tryz.prog 136 #[At0 b,i64 (a:Nat),i64 (d:Nat)] w fun e w'=>e = .returned (.bool (zce x f a d))∧w=w':=by
 refine zae (S:=sg 23) (sgOk _) (args:=[At0 b,i64 (a:Nat),i64 (d:Nat)]) Tryz.func136 rfl rfl (Nat.le_of_ble_eq_true rfl) rfl ?_
 have hn:=h.v.n
 refine Calls.mono (zaB h.full h.wf (by omega) (by omega)) ?_
 rintro e _ ⟨rfl,rfl⟩
 refine biE (fun h1=>?_) fun h1=>?_
 ·have h1:hasM f a d=true:=h1
  refine brT ?_
  exact⟨rb (by unfold zce;rw [h1];rfl),rfl⟩
 have h1:hasM f a d=false:=h1
 refine Calls.mono (zdQ (md:=3) h ha) ?_
 rintro e _ ⟨rfl,rfl⟩
 refine biE (fun h2=>?_) fun h2=>?_
 ·have h2:zaH x a 3=true:=h2
  exact⟨rb (by unfold zce;rw [h1,h2];rfl),rfl⟩
 have h2:zaH x a 3=false:=h2
 refine Calls.mono (zdQ (md:=3) h hd) ?_
 rintro e _ ⟨rfl,rfl⟩
 exact⟨rb (by unfold zce;rw [h1,h2];rfl),rfl⟩
end
abbrev orG (l:List Nat):Nat:=l.foldl (fun s i=>s|||2^i) 0
theorem zms (l:List Nat) (i:Nat):orG (l++[i])=orG l|||2^i:=by
 unfold orG
 rw [List.foldl_append];rfl
theorem zkY:∀ (l:List Nat) (s:Nat),s<2^64→(∀ i∈l,i<64)→l.foldl (fun s i=>s|||2^i) s<2^64
 | [],s,h,_=>h
 | i::l,s,h,hl=>zkY l (s|||2^i) (Nat.or_lt_two_pow h (zaG (hl i List.mem_cons_self))) fun j hj=>hl j (List.mem_cons_of_mem _ hj)
theorem zm7 {l:List Nat} (hl:∀ i∈l,i<64):orG l<2^64:=zkY l 0 (by decide) hl
section
variable {w:World}
theorem Of_c {p:Option Addr} {cp:Nat} {l:List Nat} (hl:SlR natE w p l) (h64:∀ i∈l,i<64) (hn:l.length≤1000):Calls Tryz.prog 103 #[.slice p l.length cp] w fun e w'=>e = .returned (.tuple #[s64 (orG l),i64 0])∧w=w':=by
 refine zae (S:=sg 25) (sgOk _) (args:=[.slice p l.length cp]) Tryz.func103 rfl rfl (Nat.le_of_ble_eq_true rfl) rfl ?_
 refine⟨Nat,fun k=>⟨[(4,s64 (orG (l.take k))),(7,.slice p l.length cp),(8,i64 l.length),(9,i64 (k:Nat))],[]⟩,fun k X=>k≤l.length∧w=X,fun k=>l.length-k,0,(cvE rfl rfl),⟨Nat.zero_le _,rfl⟩,?_⟩
 rintro k _ ⟨hk,rfl⟩
 dsimp only
 refine biE (fun hc=>?_) fun hc=>?_
 ·have hc:(k:Int)<(l.length:Int):=of_decide_eq_true hc
  have hkl:k<l.length:=by omega
  obtain⟨b,o,rfl,hb,hat⟩:=hl.at hkl
  obtain⟨t,ht⟩:∃ t,l[k]=t:=⟨_,rfl⟩
  have ht64:=h64 t (by rw [← ht];exact List.getElem_mem hkl)
  have htk:orG (l.take (k+1))=orG (l.take k)|||2^t:=by rw [List.take_succ_eq_append_getElem hkl,ht,zms]
  refine⟨k,rfl,hkl,?_⟩
  refine⟨i64 t,by have:=zac (hat k hkl) (i:=0) (v:=i64 t) (by rw [ht];rfl);exact this,?_⟩
  refine biE (fun h=>?_) fun _=>?_
  ·have h:(t:Int)<0:=of_decide_eq_true h
   omega
  refine biE (fun h=>?_) fun _=>?_
  ·have h:(64:Int)≤(t:Nat):=of_decide_eq_true h
   omega
  refine⟨by omega,_,zbB (e:=t) (by omega),?_⟩
  refine⟨_,zb9 (zm7 fun i hi=>h64 i (List.mem_of_mem_take hi)) (zaG ht64),?_⟩
  refine⟨((k+1:Nat):Int),(zaf (by omega)).trans (by omega),?_⟩
  exact⟨k+1,⟨.cons (by show _=some (s64 (orG (l.take (k+1))));rw [htk];rfl) (.cons rfl (.cons rfl (.cons rfl .nil))),rfl⟩,⟨hkl,rfl⟩,by show l.length-(k+1)<l.length-k;omega⟩
 ·have hc:¬ (k:Int)<(l.length:Int):=of_decide_eq_false hc
  obtain rfl:k=l.length:=by omega
  rw [List.take_length]
  exact⟨rfl,rfl⟩
end
section
variable {b c:Nat} {x:ExD} {q:Option Addr} {w:World}
theorem zaN {X:World} (fx:ExH X b x q c) {i:Nat} (hi:i<6) {o:Nat} (ho:o=1+49*i):zay X ⟨b,0+o,none⟩ (relC ((zeM x).getD i x.po)):=by
 rw [ho]
 exact zfa fx hi
theorem znh (hv:ExV w x q) (hT:Tz64M w):WrdR (zbd x.rf).to∧WrdR (frM x).to:=by
 have h1:WrdR (zbd x.rf).to:=by
  unfold zbd
  split
  ·rename_i h
   intro i hi
   refine Nat.lt_of_not_le fun hge=>?_
   obtain⟨j,hj1,hj2⟩:=Nat.exists_ge_and_testBit_of_ge_two_pow hge
   rw [show ((⟨x.rf.n,zcN x.rf.to x.rf.n.toNat⟩:RelD).to i)=zcN x.rf.to x.rf.n.toNat i from rfl,zfI,Bool.and_eq_true,decide_eq_true_eq] at hj2
   have h48:=(zaS h).2.1
   omega
  ·exact fun i _=>(by show 0<2^64;decide)
 exact⟨h1,zcT h1 hv.co⟩
theorem fr_c (fx:ExH w b x q c) (hv:ExV w x q) (hT:Tz64M w):Calls Tryz.prog 60 #[At0 b] w fun e w'=>e = .returned (.agg (relC (frM x)).toArray)∧Below w.heap.size w w':=by
 refine zah (S:=sg 19) (sgOk _) (args:=[At0 b]) (.c .p (.c .p .p)) Tryz.func60 rfl rfl (Nat.le_of_ble_eq_true rfl) rfl ?_
 obtain⟨L,hL⟩:=nm (w.heap.size)
 obtain⟨wb,wf⟩:=znh hv hT
 refine⟨Unit,fun _=>⟨[(0,At0 b),(2,At0 L)],[]⟩,fun _ X=>RelH X L zas∧Below w.heap.size w X,⟨(),⟨.cons rfl (.cons (by rw [hL];rfl) .nil),rfl⟩,by rw [hL];exact hnew w _,(Below.refl _ w).alloc (Nat.le_refl _) _⟩,?_⟩
 rintro _ X ⟨f0,hbX⟩
 refine⟨Nat,fun F=>⟨[(2,At0 L),(3,At0 F)],[]⟩,fun F Z=>RelH Z F (frM x)∧RelH Z L zas∧Below w.heap.size w Z,?_,?_⟩
 ·have dX:Below X.heap.size X X.drew:=(Below.refl _ _).drew
  have fX:=hdr (zaa hbX fx)
  have hba:∀ (A:World) (o:Obj),Below A.heap.size A (A.alloc o):=fun A o=>(Below.refl _ _).alloc (Nat.le_refl _) _
  have put:∀ (W:World) (b3:Nat),Below X.heap.size X W→RelH W b3 zas→X.heap.size≤b3→∀ {K:World→Prop},(∀ V,(RelH V b3 (frM x)∧RelH V L zas∧Below w.heap.size w V)→K V) →
    SatR ((storeVar 27 ⟨b3,0,none⟩ (.agg (relC (frM x)).toArray)).run Tryz.prog W) fun _ w'=>K w':=by
   intro W b3 hW f3 g3 K k
   refine zar (v := .agg (relC (frM x)).toArray) (ttOk.get 27 _ rfl) f3 (zad _) (zad _) (zav _) ?_
   have hL2:=hlt f0
   exact k _ ⟨zal f3,(zam (by omega)).trans (zaa hW f0),zaj (hbX.trans (hW.mono hbX.size)) (by have:=hbX.size;omega) _⟩
  refine DrawE.treeQ [14] (.op 0 (.op 1 (.op 2 (.op 3 (.op 5 (.op 6 (.op 7 (.op 8 (.alt (.op 13 (.op 4 (.op 9 (.op 10 (.op 11 (.op 12 (.op 14 (.op 15 (.nil))))))))) (.op 4 (.alt (.op 13 (.op 9 (.op 10 (.op 11 (.op 12 (.op 14 (.op 15 (.nil)))))))) (.op 9 (.op 10 (.op 11 (.op 12 (.op 13 (.op 14 (.op 15 (.nil))))))))))))))))))) (by kernel_rfl) ?_
  refine⟨relC x.rf,zad _,zaN fX (i:=1) (by decide) rfl,hlt fX,?_⟩
  refine⟨relC x.co,zad _,zaN fX (i:=2) (by decide) rfl,hlt fX,?_⟩
  refine And.intro ?_ ?_
  ·refine⟨hba _ _,?_⟩
   have b1:=dX.alloc (Nat.le_refl _) (.cells (relC zas).toArray 27)
   refine Calls.mono (zhM hv.rf (hT.below (hbX.trans (b1.mono hbX.size)))) ?_
   rintro e Y ⟨rfl,hbY,_⟩
   refine⟨hbY,?_⟩
   have b2:=b1.trans (hbY.mono b1.size)
   refine Calls.mono (zdH wb hv.co (hT.below (hbX.trans (b2.mono hbX.size)))) ?_
   rintro e Z ⟨rfl,hbZ⟩
   refine⟨hbZ,?_⟩
   refine put Z X.heap.size (b2.trans (hbZ.mono b2.size)) (zaa hbZ (zaa hbY (hnew X.drew _))) (Nat.le_refl _) ?_
   exact fun V hV=>⟨X.heap.size,(cvE rfl rfl),hV⟩
  refine Calls.mono (zhM hv.rf (hT.below (hbX.trans (dX.mono hbX.size)))) ?_
  rintro e Y ⟨rfl,hbY,_⟩
  refine⟨hbY,?_⟩
  have b1:=dX.trans (hbY.mono dX.size)
  refine And.intro ?_ ?_
  ·refine⟨hba _ _,?_⟩
   have b2:=b1.alloc b1.size (.cells (relC zas).toArray 27)
   refine Calls.mono (zdH wb hv.co (hT.below (hbX.trans (b2.mono hbX.size)))) ?_
   rintro e Z ⟨rfl,hbZ⟩
   refine⟨hbZ,?_⟩
   refine put Z Y.heap.size (b2.trans (hbZ.mono b2.size)) (zaa hbZ (hnew Y _)) b1.size ?_
   exact fun V hV=>⟨Y.heap.size,(cvE rfl rfl),hV⟩
  ·refine Calls.mono (zdH wb hv.co (hT.below (hbX.trans (b1.mono hbX.size)))) ?_
   rintro e Z ⟨rfl,hbZ⟩
   refine⟨hbZ,?_⟩
   have b2:=b1.trans (hbZ.mono b1.size)
   refine⟨hba _ _,?_⟩
   refine put _ Z.heap.size (b2.alloc b2.size _) (hnew Z _) b2.size ?_
   exact fun V hV=>⟨Z.heap.size,(cvE rfl rfl),hV⟩
 rintro F Z ⟨f1,f0,hbZ⟩
 refine⟨relC (frM x),zad _,zab f1,hlt f1,?_⟩
 refine zar (v := .agg (relC (frM x)).toArray) (ttOk.get 27 _ rfl) f0 (zad _) (zad _) (zav _) ?_
 exact⟨relC (frM x),zad _,zab (zal f0),rfl,zaj hbZ (by omega) _⟩
end
structure RelOk (n:Nat) (r:RelD):Prop where
 n:r.n=n
 ok:okR r=true
 w:WrdR r.to
section
variable {n:Nat} {r a b:RelD}
theorem RelOk.le (h:RelOk n r):n≤48:=by
 have:=(zaS h.ok).2.1
 have:=h.n
 omega
theorem RelOk.bit (h:RelOk n r) {i j:Nat} (hi:i<48) (hb:hasM r i j=true):i<n∧j<n:=by
 have:=zh5 h.ok h.w hi hb
 have:=h.n
 omega
theorem zpk (hn:r.n=n) (h48:n≤48) (h:∀ i j,i<48→hasM r i j=true→i<n∧j<n):okR r=true:=by
 unfold okR
 rw [Bool.and_eq_true,Bool.and_eq_true,decide_eq_true_eq,decide_eq_true_eq,List.all_eq_true]
 refine⟨by omega,by omega,fun i hi=>?_⟩
 have hi:=List.mem_range.1 hi
 unfold zdK
 rw [Bool.and_eq_true,Bool.or_eq_true,decide_eq_true_eq,decide_eq_true_eq,decide_eq_true_eq]
 refine⟨?_,?_⟩
 ·rw [zd7,zfL]
  apply Nat.eq_of_testBit_eq
  intro j
  rw [Nat.zero_testBit]
  by_cases hj:j<64
  ·rw [zd6 (zdb _) hj,zgR (by omega) (by omega) hj]
   cases hb:(r.to i).testBit j with
   | false=>rfl
   | true =>
    have:=(h i j hi hb).2
    rw [decide_eq_true (by omega)];rfl
  ·have:=Nat.testBit_lt_two_pow (Nat.lt_of_lt_of_le (Nat.lt_of_le_of_lt (show zb2 (r.to i) (allN r.n)≤_ from Nat.and_le_right) (show 18446744073709551615-allN r.n<2^64 by omega)) (Nat.pow_le_pow_right (show 0<2 by decide) (show 64≤j by omega)))
   exact this
 ·by_cases hin:i<n
  ·exact .inl (by omega)
  ·refine .inr (Nat.eq_of_testBit_eq fun j=>?_)
   rw [Nat.zero_testBit]
   cases hb:(r.to i).testBit j with
   | false=>rfl
   | true=>exact absurd (h i j hi hb).1 hin
theorem RelOk.of (hn:r.n=n) (h48:n≤48) (h:∀ i j,i<48→hasM r i j=true→i<n∧j<n) (hw:WrdR r.to):RelOk n r:=⟨hn,zpk hn h48 h,hw⟩
theorem zhU (p:Nat→Bool):∀ k j,(rowP k p).testBit j=(decide (j<k)&&p j)
 | 0,j=>by
  show (0:Nat).testBit j=_
  simp
 | k+1,j=>by
  rw [zdT]
  split
  ·rename_i h
   rw [Nat.testBit_or,zhU p k j,zdL]
   by_cases e:j=k
   ·subst e
    simp [h]
   ·rw [decide_eq_false e,Bool.or_false]
    congr 1
    exact decide_eq_decide.2 (by omega)
  ·rename_i h
   rw [zhU p k j]
   by_cases e:j=k
   ·subst e
    have:p j=false:=by simpa using h
    rw [this,Bool.and_false,Bool.and_false]
   ·congr 1
    exact decide_eq_decide.2 (by omega)
theorem zct {f:Nat→Nat} {i j:Nat}:hasM (zbu n f) i j=(decide (i<n)&&(f i).testBit j):=by
 unfold hasM zbu
 dsimp only
 split
 ·rename_i h
  rw [decide_eq_true h];rfl
 ·rename_i h
  rw [decide_eq_false h,Nat.zero_testBit];rfl
theorem zd0 {p:Nat→Nat→Bool} {i j:Nat}:hasM (zde n p) i j=(decide (i<n)&&(decide (j<n)&&p i j)):=by
 unfold zde
 rw [zct,zhU]
theorem RelOk.pick (h:n≤48) (p:Nat→Nat→Bool):RelOk n (zde n p):=by
 refine .of rfl h (fun i j _ hb=>?_) (zdZ (by omega))
 rw [zd0] at hb
 simp only [Bool.and_eq_true,decide_eq_true_eq] at hb
 exact⟨hb.1,hb.2.1⟩
theorem zdo {f:Nat→Nat} (ha:RelOk n a) (hb:RelOk n b):comb a b f=(zbu n f,0):=by
 unfold comb
 have e:a.n.toNat=n:=by have:=ha.n;omega
 rw [decide_eq_true (ha.n.trans hb.n.symm),ha.ok,hb.ok,if_pos (show (true&&(true&&true))=true from rfl),e]
theorem RelOk.comb {f:Nat→Nat} (ha:RelOk n a) (hb:RelOk n b) (hf:∀ i j,i<n→(f i).testBit j=true→j<n):RelOk n (comb a b f).1:=by
 rw [zdo ha hb]
 have h48:=ha.le
 have hbit:∀ i j,hasM (zbu n f) i j=true→i<n∧j<n:=fun i j h=>by
  rw [zct,Bool.and_eq_true,decide_eq_true_eq] at h
  exact⟨h.1,hf i j h.1 h.2⟩
 refine .of rfl h48 (fun i j _ h=>hbit i j h) fun i hi=>?_
 apply Nat.lt_of_not_le
 intro hge
 obtain⟨j,hj1,hj2⟩:=Nat.exists_ge_and_testBit_of_ge_two_pow hge
 have:=(hbit i j hj2).2
 omega
theorem zkn (ha:RelOk n a) (hb:RelOk n b) {i j:Nat} (hi:i<n):hasM (zbQ a b).1 i j=(hasM a i j||hasM b i j):=by
 unfold zbQ
 rw [zdo ha hb]
 show hasM (zbu n _) i j=_
 rw [zct,decide_eq_true hi,Nat.testBit_or];rfl
theorem RelOk.union (ha:RelOk n a) (hb:RelOk n b):RelOk n (zbQ a b).1:=ha.comb hb fun i j hi h=>by
 rw [Nat.testBit_or,Bool.or_eq_true] at h
 have h48:=ha.le
 rcases h with h | h
 ·exact (ha.bit (by omega) h).2
 ·exact (hb.bit (by omega) h).2
theorem zmR (ha:RelOk n a) (hb:RelOk n b) {i j:Nat} (hi:i<n):hasM (zb6 a b).1 i j=(hasM a i j&&hasM b i j):=by
 unfold zb6
 rw [zdo ha hb]
 show hasM (zbu n _) i j=_
 rw [zct,decide_eq_true hi,Nat.testBit_and];rfl
theorem RelOk.both (ha:RelOk n a) (hb:RelOk n b):RelOk n (zb6 a b).1:=ha.comb hb fun i j hi h=>by
 rw [Nat.testBit_and,Bool.and_eq_true] at h
 have h48:=ha.le
 exact (ha.bit (by omega) h.1).2
theorem zk8 (ha:RelOk n a) (hb:RelOk n b) {i j:Nat} (hi:i<n) (hj:j<64):hasM (zaV a b).1 i j=(hasM a i j && !hasM b i j):=by
 unfold zaV
 rw [zdo ha hb]
 show hasM (zbu n _) i j=_
 have h48:=ha.le
 rw [zct,decide_eq_true hi,zd7,zd6 (hb.w i (by omega)) hj];rfl
theorem RelOk.minus (ha:RelOk n a) (hb:RelOk n b):RelOk n (zaV a b).1:=ha.comb hb fun i j hi h=>by
 rw [zd7] at h
 unfold zb2 at h
 rw [Nat.testBit_and,Bool.and_eq_true] at h
 have h48:=ha.le
 exact (ha.bit (by omega) h.1).2
theorem zfH (ha:RelOk n a) {i j:Nat} (hi:i<64):hasM (zbd a) i j=(decide (j<n)&&hasM a j i):=by
 unfold hasM
 rw [zjm ha.ok]
 have e1:decide ((j:Int)<a.n)=decide (j<n):=decide_eq_decide.2 (by have:=ha.n;omega)
 have e2:decide (i∈els (a.to j))=(a.to j).testBit i:=by
  cases h:(a.to j).testBit i with
  | true=>exact decide_eq_true (zcK.2 ⟨hi,h⟩)
  | false=>exact decide_eq_false fun hm=>by rw [(zcK.1 hm).2] at h;cases h
 rw [e1,e2]
theorem RelOk.back (ha:RelOk n a):RelOk n (zbd a):=by
 have h48:=ha.le
 have hbit:∀ i j,i<48→hasM (zbd a) i j=true→i<n∧j<n:=fun i j hi h=>by
  rw [zfH ha (by omega),Bool.and_eq_true,decide_eq_true_eq] at h
  exact⟨(ha.bit (by omega) h.2).2,h.1⟩
 refine .of ?_ h48 hbit fun i hi=>?_
 ·unfold zbd
  rw [if_pos ha.ok]
  exact ha.n
 ·apply Nat.lt_of_not_le
  intro hge
  obtain⟨j,hj1,hj2⟩:=Nat.exists_ge_and_testBit_of_ge_two_pow hge
  have:=(hbit i j hi hj2).2
  omega
theorem zfv {to:Nat→Nat} {j:Nat}:∀ (l:List Nat) (t:Nat),(l.foldl (fun t a=>t|||to a) t).testBit j=(t.testBit j||l.any fun a=>(to a).testBit j)
 | [],t=>by simp
 | a::l,t=>by rw [List.foldl_cons,zfv l,Nat.testBit_or,List.any_cons,Bool.or_assoc]
theorem zgm (ha:RelOk n a) (hb:RelOk n b) {i j:Nat} (hi:i<n):hasM (zbD a b).1 i j=true↔∃ k,k<n∧hasM a i k=true∧hasM b k j=true:=by
 unfold zbD
 rw [zdo ha hb]
 show hasM (zbu n _) i j=true↔_
 have h48:=ha.le
 rw [zct,decide_eq_true hi,Bool.true_and]
 unfold zeD
 rw [zfv,Nat.zero_testBit,Bool.false_or,List.any_eq_true]
 constructor
 ·rintro⟨k,hk,h⟩
  exact⟨k,(ha.bit (by omega) (zcK.1 hk).2).2,(zcK.1 hk).2,h⟩
 ·rintro⟨k,hk,h1,h2⟩
  exact⟨k,zcK.2 ⟨by omega,h1⟩,h2⟩
theorem RelOk.then (ha:RelOk n a) (hb:RelOk n b):RelOk n (zbD a b).1:=ha.comb hb fun i j hi h=>by
 have h48:=ha.le
 unfold zeD at h
 rw [zfv,Nat.zero_testBit,Bool.false_or,List.any_eq_true] at h
 obtain⟨k,hk,h⟩:=h
 have:=(ha.bit (by omega) (zcK.1 hk).2).2
 exact (hb.bit (by omega) h).2
theorem zl5 (ha:RelOk n a) (hb:RelOk n b):(zbQ a b).2=0:=by unfold zbQ;rw [zdo ha hb]
theorem zoK (ha:RelOk n a) (hb:RelOk n b):(zb6 a b).2=0:=by unfold zb6;rw [zdo ha hb]
theorem zeU (ha:RelOk n a) (hb:RelOk n b):(zaV a b).2=0:=by unfold zaV;rw [zdo ha hb]
theorem zhx {to:Nat→Nat}:∀ (l:List Nat) (s:Nat),l.foldl (fun s a=>if to a=0 then s else s|||2^a) s=0↔s=0∧∀ i∈l,to i=0
 | [],s=>by simp
 | a::l,s=>by
  rw [List.foldl_cons,zhx l]
  by_cases h:to a=0
  ·rw [if_pos h]
   simp [h]
  ·rw [if_neg h]
   have:s|||2^a≠0:=fun e=>by
    have h2:=congrArg (fun s=>s.testBit a) e
    simp only [Nat.testBit_or,zdL,Nat.zero_testBit,decide_true,Bool.or_true] at h2
    cases h2
   simp [h,this]
theorem zhA (ha:RelOk n a):zcc a=true↔∀ i j,i<n→j<n→hasM a i j=false:=by
 have h48:=ha.le
 have e:a.n.toNat=n:=by have:=ha.n;omega
 unfold zcc zjY
 rw [ha.ok,Bool.true_and,decide_eq_true_eq,if_pos rfl,e,zhx]
 constructor
 ·rintro⟨_,h⟩ i j hi _
  unfold hasM
  rw [h i (List.mem_range.2 hi),Nat.zero_testBit]
 ·intro h
  refine⟨rfl,fun i hi=>Nat.eq_of_testBit_eq fun j=>?_⟩
  have hi:=List.mem_range.1 hi
  rw [Nat.zero_testBit]
  cases hb:(a.to i).testBit j with
  | false=>rfl
  | true =>
   have:=h i j hi (ha.bit (by omega) hb).2
   unfold hasM at this
   rw [hb] at this;cases this
theorem zc2 (ha:RelOk n a) (hb:RelOk n b) (h:∀ i j,i<n→j<n→hasM a i j=true→hasM b i j=true):zcc (zaV a b).1=true:=by
 have h48:=ha.le
 rw [zhA (ha.minus hb)]
 intro i j hi hj
 rw [zk8 ha hb hi (by omega)]
 cases h1:hasM a i j with
 | false=>rfl
 | true=>rw [h i j hi hj h1];rfl
end
structure WX (x:ExD):Prop where
 po:WrdR x.po.to
 rf:WrdR x.rf.to
 co:WrdR x.co.to
 dt:WrdR x.dt.to
 ct:WrdR x.ct.to
 rm:WrdR x.rm.to
structure XOk (x:ExD):Prop where
 n:x.ev.length≤48
 po:RelOk x.ev.length x.po
 rf:RelOk x.ev.length x.rf
 co:RelOk x.ev.length x.co
 dt:RelOk x.ev.length x.dt
 ct:RelOk x.ev.length x.ct
 rm:RelOk x.ev.length x.rm
 ev:zbA x.ev (zcs x.ev)=true
 poE:zcI x.po (poR x.ev)=true
 rfR:zc1 x=true
 coR:zc9 x (zcs x.ev)=true
 dep:zcE x=true
section
variable {x:ExD}
theorem zo4 (hw:WX x) (h:zaJ x=true):XOk x:=by
 unfold zaJ zcq at h
 simp only [List.all_cons,List.all_nil,Bool.and_true,Bool.and_eq_true,decide_eq_true_eq] at h
 obtain⟨h1,_,_,h4,⟨h5,h6,h7,h8,h9,h10⟩,h11,h12,h13,h14⟩:=h
 exact⟨h1,⟨h5.1,h5.2,hw.po⟩,⟨h6.1,h6.2,hw.rf⟩,⟨h7.1,h7.2,hw.co⟩,⟨h8.1,h8.2,hw.dt⟩,⟨h9.1,h9.2,hw.ct⟩,⟨h10.1,h10.2,hw.rm⟩,h4,h11,h12,h13,h14⟩
theorem zi7 (h:XOk x):RelOk x.ev.length (frM x):=h.rf.back.then h.co
theorem zli (h:XOk x) {r:RelD} (hr:RelOk x.ev.length r):RelOk x.ev.length (extM x r):=by
 have e:r.n.toNat=x.ev.length:=by have:=hr.n;omega
 unfold extM
 rw [e]
 exact .pick h.n _
theorem zi3 (h:XOk x) {m:Nat}:RelOk x.ev.length (zcL m x) := .pick h.n _
def zfR (m:Nat) (x:ExD):RelD:=if zbm m=true∧zaJ x=true then zcL m x else zas
end
section
variable {n:Nat} {a b:RelD} {x:ExD}
theorem ziO (ha:RelOk n a) (hb:RelOk n b) (h:∀ i j,i<n→j<n→hasM a i j=hasM b i j):zcI a b=true:=by
 have h48:=ha.le
 unfold zcI
 rw [Bool.and_eq_true,decide_eq_true_eq,List.all_eq_true]
 refine⟨ha.n.trans hb.n.symm,fun i hi=>decide_eq_true (Nat.eq_of_testBit_eq fun j=>?_)⟩
 have hi:=List.mem_range.1 hi
 by_cases hij:i<n∧j<n
 ·exact h i j hij.1 hij.2
 ·have e1:hasM a i j=false:=by
   cases hc:hasM a i j with
   | false=>rfl
   | true=>exact (hij (ha.bit hi hc)).elim
  have e2:hasM b i j=false:=by
   cases hc:hasM b i j with
   | false=>rfl
   | true=>exact (hij (hb.bit hi hc)).elim
  exact e1.trans e2.symm
theorem zg8 (h:zcI a b=true) {i j:Nat} (hi:i<48):hasM a i j=hasM b i j:=by
 unfold zcI at h
 rw [Bool.and_eq_true,List.all_eq_true] at h
 have:=of_decide_eq_true (h.2 i (List.mem_range.2 hi))
 unfold hasM
 rw [this]
theorem zik (h:XOk x) {r:RelD} (hr:RelOk x.ev.length r):RelOk x.ev.length (intM x r):=by
 have e:r.n.toNat=x.ev.length:=by have:=hr.n;omega
 unfold intM
 rw [e]
 exact .pick h.n _
theorem zlj {r:RelD} (hr:RelOk x.ev.length r) {i j:Nat} (hi:i<x.ev.length) (hj:j<x.ev.length):hasM (extM x r) i j=(hasM r i j && !decide ((evA x i).th=(evA x j).th)):=by
 have e:r.n.toNat=x.ev.length:=by have:=hr.n;omega
 unfold extM
 rw [e,zd0,decide_eq_true hi,decide_eq_true hj];rfl
theorem zil {r:RelD} (hr:RelOk x.ev.length r) {i j:Nat} (hi:i<x.ev.length) (hj:j<x.ev.length):hasM (intM x r) i j=(hasM r i j&&decide ((evA x i).th=(evA x j).th)):=by
 have e:r.n.toNat=x.ev.length:=by have:=hr.n;omega
 unfold intM
 rw [e,zd0,decide_eq_true hi,decide_eq_true hj];rfl
theorem zhP (h:XOk x) {r:RelD} (hr:RelOk x.ev.length r):(zbQ (extM x r) (intM x r)).2=0∧(zb6 (extM x r) (intM x r)).2=0∧zcI (zbQ (extM x r) (intM x r)).1 r=true∧zcc (zb6 (extM x r) (intM x r)).1=true:=by
 have he:=zli h hr
 have hi:=zik h hr
 refine⟨zl5 he hi,zoK he hi,ziO (he.union hi) hr fun i j h1 h2=>?_,(zhA (he.both hi)).2 fun i j h1 h2=>?_⟩
 ·rw [zkn he hi h1,zlj hr h1 h2,zil hr h1 h2]
  cases hasM r i j <;> cases decide ((evA x i).th=(evA x j).th) <;> rfl
 ·rw [zmR he hi h1,zlj hr h1 h2,zil hr h1 h2]
  cases hasM r i j <;> cases decide ((evA x i).th=(evA x j).th) <;> rfl
theorem zlT {t:Int}:∀ (es:List Ev) (j s k:Nat),(zhZ t j es s).testBit k=true↔s.testBit k=true∨∃ m,m<es.length∧k=j+m∧(es.getD m ev0).th=t
 | [],j,s,k=>by
  show s.testBit k=true↔_
  simp
 | e::es,j,s,k=>by
  show (zhZ t (j+1) es (if e.th=t then s|||2^j else s)).testBit k=true↔_
  rw [zlT es]
  have hs:(if e.th=t then s|||2^j else s).testBit k=true↔s.testBit k=true∨(k=j∧e.th=t):=by
   split
   ·rename_i h
    rw [Nat.testBit_or,zdL,Bool.or_eq_true,decide_eq_true_eq]
    simp [h]
   ·rename_i h
    simp [h]
  rw [hs]
  constructor
  ·rintro ((h | ⟨h1,h2⟩) | ⟨m,h1,h2,h3⟩)
   ·exact .inl h
   ·exact .inr ⟨0,by simp,h1,h2⟩
   ·exact .inr ⟨m+1,by simpa using h1,by omega,by simpa using h3⟩
  ·rintro (h | ⟨m,h1,h2,h3⟩)
   ·exact .inl (.inl h)
   ·cases m with
    | zero=>exact .inl (.inr ⟨h2,h3⟩)
    | succ m=>exact .inr ⟨m,by simpa using h1,by omega,by simpa using h3⟩
theorem ziT (h:XOk x) {i j:Nat} (hi:i<x.ev.length):hasM x.po i j=true↔(evA x i).th ≠ -1∧i<j∧j<x.ev.length∧(evA x j).th=(evA x i).th:=by
 have h48:=h.n
 rw [zg8 h.poE (by omega)]
 have hg:x.ev[i]?=some (evA x i):=by
  rw [List.getElem?_eq_getElem hi]
  unfold evA
  rw [List.getD_eq_getElem?_getD,List.getElem?_eq_getElem hi];rfl
 show (zdY x.ev i).testBit j=true↔_
 unfold zdY
 rw [hg]
 dsimp only
 by_cases ht:(evA x i).th = -1
 ·rw [if_pos ht]
  simp [ht]
 ·rw [if_neg ht,zlT,Nat.zero_testBit]
  have hd:∀ m,(x.ev.drop (i+1)).getD m ev0=evA x (i+1+m):=fun m=>by
   unfold evA
   rw [List.getD_eq_getElem?_getD,List.getD_eq_getElem?_getD,List.getElem?_drop]
  constructor
  ·rintro (h | ⟨m,h1,h2,h3⟩)
   ·cases h
   ·rw [hd] at h3
    rw [List.length_drop] at h1
    subst h2
    exact⟨ht,by omega,by omega,h3⟩
  ·rintro⟨_,h1,h2,h3⟩
   refine .inr ⟨j-(i+1),by rw [List.length_drop];omega,by omega,?_⟩
   rw [hd,show i+1+(j-(i+1))=j by omega]
   exact h3
theorem zmp (h:XOk x) {i j k:Nat} (hi:i<x.ev.length) (h1:hasM x.po i j=true) (h2:hasM x.po j k=true):hasM x.po i k=true:=by
 obtain⟨a1,a2,a3,a4⟩:=(ziT h hi).1 h1
 obtain⟨b1,b2,b3,b4⟩:=(ziT h a3).1 h2
 exact (ziT h hi).2 ⟨a1,by omega,b3,b4.trans a4⟩
theorem znf {s i j:Nat}:hasM (idR n s) i j=(decide (i<n)&&(s.testBit j&&decide (j=i))):=by
 unfold idR
 rw [zct,Nat.testBit_and,zdL]
theorem RelOk.id (h:n≤48) (s:Nat):RelOk n (idR n s):=by
 have hb:∀ i j,hasM (idR n s) i j=true→i<n∧j<n:=fun i j hb=>by
  rw [znf] at hb
  simp only [Bool.and_eq_true,decide_eq_true_eq] at hb
  exact⟨hb.1,by omega⟩
 refine .of rfl h (fun i j _=>hb i j) fun i hi=>?_
 apply Nat.lt_of_not_le
 intro hge
 obtain⟨j,hj1,hj2⟩:=Nat.exists_ge_and_testBit_of_ge_two_pow hge
 have:=(hb i j hj2).2
 omega
def zbN (x:ExD) (md:UInt8):RelD:=if zaJ x=true then (if 3≤md.toNat∧md.toNat≤5 then zaz x md else relN x.ev.length) else zas
theorem zgc (h:XOk x) (md:UInt8):RelOk x.ev.length (zaz x md):=(h.po.then (.id h.n _)).then h.po
theorem zkO {n:Nat} (h:n≤48):RelOk n (relN n):=by
 refine .of rfl h (fun i j _ hb=>?_) fun i _=>(by show 0<2^64;decide)
 have:(0:Nat).testBit j=true:=hb
 rw [Nat.zero_testBit] at this;cases this
theorem zlh (h:XOk x) (md:UInt8) {i j:Nat} (hi:i<x.ev.length) (hb:hasM (zaz x md) i j=true):hasM x.po i j=true:=by
 have h1:=h.po.then (.id h.n (zcd x md))
 unfold zaz at hb
 obtain⟨k,hk,hb1,hb2⟩:=(zgm h1 h.po hi).1 hb
 obtain⟨m,hm,hc1,hc2⟩:=(zgm h.po (.id h.n (zcd x md)) hi).1 hb1
 rw [znf] at hc2
 simp only [Bool.and_eq_true,decide_eq_true_eq] at hc2
 obtain rfl:=hc2.2.2
 exact zmp h hi hc1 hb2
theorem zgW (h:XOk x) (hr:zaJ x=true) (md:UInt8):(zaV (zbN x md) x.po).2=0∧zcc (zaV (zbN x md) x.po).1=true:=by
 unfold zbN
 rw [if_pos hr]
 split
 ·exact⟨zeU (zgc h md) h.po,zc2 (zgc h md) h.po fun i j hi _ hb=>zlh h md hi hb⟩
 ·refine⟨zeU (zkO h.n) h.po,zc2 (zkO h.n) h.po fun i j hi _ hb=>?_⟩
  have:(0:Nat).testBit j=true:=hb
  rw [Nat.zero_testBit] at this;cases this
theorem zjz (h:XOk x) (hr:zaJ x=true) {m:Nat} (hm:zbm m=true):(zaV (zfR m x) x.po).2=0∧zcc (zaV (zfR m x) x.po).1=true:=by
 unfold zfR
 rw [if_pos ⟨hm,hr⟩]
 refine⟨zeU (zi3 h) h.po,zc2 (zi3 h) h.po fun i j hi _ hb=>?_⟩
 unfold zcL at hb
 rw [zd0] at hb
 simp only [Bool.and_eq_true] at hb
 exact hb.2.2.1
theorem zkv (h:XOk x):zcI (intM x x.po) x.po=true:=ziO (zik h h.po) h.po fun i j hi hj=>by
 rw [zil h.po hi hj]
 cases hb:hasM x.po i j with
 | false=>rfl
 | true=>rw [((ziT h hi).1 hb).2.2.2,decide_eq_true rfl];rfl
theorem zft {key:Nat→Nat} {y:Nat}:∀ r:List Nat,(zbx key r y).Perm (y::r)
 | [] => .refl _
 | z::r=>by
  unfold zbx
  split
  ·exact ((zft r).cons z).trans (.swap y z r)
  ·exact .refl _
theorem zhv {key:Nat→Nat}:∀ (l acc:List Nat),(l++acc).Nodup→(l.foldl (fun acc x=>zbx key acc x) acc).Nodup
 | [],acc,h=>h
 | y::l,acc,h=>zhv l _ (by
   have p:(l++zbx key acc y).Perm (y::l++acc):=((zft acc).append_left l).trans List.perm_middle
   exact p.nodup_iff.2 h)
theorem zjL (l:Nat):(zaR x l).Nodup:=by
 unfold zaR zgo
 refine (List.reverse_perm _).nodup_iff.2 (zhv _ _ ?_)
 rw [List.append_nil]
 exact List.nodup_range.filter _
theorem zhs:∀ (l:List Nat) (f:Nat→Nat) (b:Nat) (P:List Nat),(P++l).Nodup→(∀ j,b.testBit j=true→j∈P)→∀ i j,(zjT l f b i).testBit j=true→(f i).testBit j=true∨(i∈l∧j∈P++l∧i≠j)
 | [],f,b,P,_,_,i,j,h => .inl h
 | y::l,f,b,P,hn,hb,i,j,h=>by
  have hn2:((P++[y])++l).Nodup:=by rw [List.append_assoc];exact hn
  have hy:y ∉ P:=fun hy=>by
   rw [List.nodup_append] at hn
   exact hn.2.2 y hy y List.mem_cons_self rfl
  have:=zhs l (upd f y b) (b|||2^y) (P++[y]) hn2 (fun j hj=>by
   rw [Nat.testBit_or,zdL,Bool.or_eq_true,decide_eq_true_eq] at hj
   rcases hj with hj | hj
   ·exact List.mem_append_left _ (hb j hj)
   ·rw [hj];simp) i j h
  rcases this with h1 | ⟨h1,h2,h3⟩
  ·by_cases hi:i=y
   ·subst hi
    rw [za4] at h1
    have hj:=hb j h1
    exact .inr ⟨by simp,List.mem_append_left _ hj,fun e=>hy (e▸hj)⟩
   ·rw [zcm _ _ hi] at h1
    exact .inl h1
  ·refine .inr ⟨List.mem_cons_of_mem _ h1,?_,h3⟩
   rw [List.append_assoc] at h2
   exact h2
theorem zpW:∀ (m l:Nat) (p q:RelD×(Nat→UInt8)),coGo x m l p=some q→∀ i j,hasM q.1 i j=true→hasM p.1 i j=true∨∃ l,i∈zaR x l∧j∈zaR x l∧i≠j
 | 0,l,p,q,h,i,j,hb=>by
  have h:some p=some q:=h
  rw [Option.some.inj h]
  exact .inl hb
 | m+1,l,p,q,h,i,j,hb=>by
  unfold coGo at h
  split at h
  ·rcases zpW m (l+1) _ q h i j hb with h1 | h1
   ·have h1:(zjT (zaR x l).reverse p.1.to 0 i).testBit j=true:=h1
    rcases zhs _ _ 0 [] (by rw [List.nil_append];exact (List.reverse_perm _).nodup_iff.2 (zjL l)) (fun j hj=>by rw [Nat.zero_testBit] at hj;cases hj) i j h1 with h2 | ⟨h2,h3,h4⟩
    ·exact .inl h2
    ·rw [List.nil_append] at h3
     exact .inr ⟨l,List.mem_reverse.1 h2,List.mem_reverse.1 h3,h4⟩
   ·exact .inr h1
  ·cases h
theorem zfX {l i:Nat} (h:i∈zaR x l):isW x i=true∧(evA x i).l.toNat=l:=by
 have h:=zgZ.1 h
 unfold zeI at h
 have:=(List.mem_filter.1 h).2
 rw [Bool.and_eq_true,decide_eq_true_eq,decide_eq_true_eq] at this
 exact⟨decide_eq_true this.1,this.2⟩
theorem zmN (h:XOk x) {i j:Nat} (hi:i<x.ev.length) (hb:hasM x.co i j=true):isW x i=true∧isW x j=true∧(evA x i).l=(evA x j).l∧i≠j:=by
 have h48:=h.n
 have hc:=h.coR
 unfold zc9 at hc
 split at hc
 ·cases hc
 ·rename_i p hp
  rw [Bool.and_eq_true] at hc
  rw [← zg8 hc.1 (by omega)] at hb
  rcases zpW _ _ _ _ hp i j hb with h1 | ⟨l,h1,h2,h3⟩
  ·have h1:(0:Nat).testBit j=true:=h1
   rw [Nat.zero_testBit] at h1;cases h1
  ·have r1:=zfX h1
   have r2:=zfX h2
   exact⟨r1.1,r2.1,UInt8.toNat_inj.1 (r1.2.trans r2.2.symm),h3⟩
theorem ziL (h:XOk x) {w i:Nat} (hw:w<x.ev.length) (hi:i<x.ev.length) (hb:hasM x.rf w i=true):isR x i=true∧w=ctz ((zbd x.rf).to i)∧isW x w=true∧(evA x w).l=(evA x i).l:=by
 have h48:=h.n
 have hr:=h.rfR
 unfold zc1 at hr
 rw [List.all_eq_true] at hr
 have h1:=hr i (List.mem_range.2 hi)
 have hbit:((zbd x.rf).to i).testBit w=true:=by
  have:=zfH h.rf (i:=i) (j:=w) (by omega)
  unfold hasM at this hb
  rw [this,hb,decide_eq_true hw];rfl
 have h0:¬ (zbd x.rf).to i=0:=fun e=>by rw [e,Nat.zero_testBit] at hbit;cases hbit
 unfold zeL at h1
 split at h1
 ·rename_i hk
  try rw [if_neg h0] at h1
  split at h1
  ·rename_i hs
   have hwz:w=ctz ((zbd x.rf).to i):=by
    rw [hs,zdL] at hbit
    exact of_decide_eq_true hbit
   rw [← hwz] at h1
   simp only [Bool.and_eq_true,decide_eq_true_eq] at h1
   exact⟨decide_eq_true hk,hwz,decide_eq_true h1.1,h1.2.1⟩
  ·cases h1
 ·exact (h0 (of_decide_eq_true h1)).elim
theorem zic (h:XOk x):RelOk x.ev.length (locM x) := .pick h.n _
theorem zi8 (h:XOk x) {i j:Nat} (hi:i<x.ev.length) (hj:j<x.ev.length) (hb:hasM (frM x) i j=true):isR x i=true∧isW x j=true∧(evA x i).l=(evA x j).l∧hasM x.rf j i=false:=by
 have h48:=h.n
 obtain⟨k,hk,h1,h2⟩:=(zgm h.rf.back h.co hi).1 hb
 rw [zfH h.rf (by omega),Bool.and_eq_true] at h1
 obtain⟨a1,a2,a3,a4⟩:=ziL h hk hi h1.2
 obtain⟨b1,b2,b3,b4⟩:=zmN h hk h2
 refine⟨a1,b2,a4.symm.trans b3,?_⟩
 cases hc:hasM x.rf j i with
 | false=>rfl
 | true=>exact (b4 (a2.trans (ziL h hj hi hc).2.1.symm)).elim
theorem zmd (h:XOk x):(zaV (frM x) (locM x)).2=0∧zcc (zaV (frM x) (locM x)).1=true:=⟨zeU (zi7 h) (zic h),zc2 (zi7 h) (zic h) fun i j hi hj hb=>by
 obtain⟨h1,h2,h3,_⟩:=zi8 h hi hj hb
 unfold locM
 rw [zd0,decide_eq_true hi,decide_eq_true hj]
 unfold zcW accA
 rw [h1,h2,h3,decide_eq_true rfl,Bool.or_true];rfl⟩
end
theorem zdU {X:World} {L:Nat} {r:RelD} (h:RelH X L r):∀ i,i<48→X.cell? ⟨L,0+1+i*1,none⟩=some (s64 (r.to i)):=by
 have hR:RelAt X L 0 27 [] [] r:=⟨rfl,by simpa using h⟩
 exact fun i hi=>hR.cell hi
section
variable {b c:Nat} {x:ExD} {q:Option Addr} {w:World}
theorem zpu {r:RelD} {a d R:Nat} (fR:RelH w R r) (hr:WrdR r.to) (fx:ExH w b x q c) (hv:ExV w x q) (ha:a<x.ev.length) (hd:d<x.ev.length) :
  Calls Tryz.prog 66 #[i64 (a:Nat),i64 (d:Nat),At0 R,At0 b] w fun e w'=>e = .returned (.bool (hasM r a d&&decide ((evA x a).th=(evA x d).th)))∧Below w.heap.size w w':=by
 refine zae (S:=sg 25) (sgOk _) (args:=[i64 (a:Nat),i64 (d:Nat),At0 R,At0 b]) Tryz.func66 rfl rfl (Nat.le_of_ble_eq_true rfl) rfl ?_
 have hn:=hv.n
 obtain⟨bq,oq,hqe,hb,hat⟩:=zcD hv.ev ha
 obtain⟨bq2,oq2,hqe2,hb2,hat2⟩:=zcD hv.ev hd
 rw [hqe] at hqe2
 simp only [Option.some.injEq,Addr.mk.injEq,and_true] at hqe2
 rw [← hqe2.1,← hqe2.2] at hat2
 subst hqe
 have dw:Below w.heap.size w w.drew:=(Below.refl _ _).drew
 refine DrawE.ord [] [0,1,2,3,4,5,6,7,8,9,10,11,12,13,14,15,16,17,18] (by kernel_rfl) ?_
 refine Calls.mono (zaB (zdU (hdr fR)) hr (by omega) (by omega)) ?_
 rintro e _ ⟨rfl,rfl⟩
 refine⟨Below.refl _ _,?_⟩
 refine biE (fun h1=>?_) fun h1=>?_
 ·have h1:hasM r a d=true:=h1
  refine⟨_,za9 (zab (hdr fx)),?_⟩
  refine⟨a,rfl,ha,?_⟩
  refine⟨i64 (evA x a).th,by have:=zac (zaq dw hat) (i:=0) (v:=i64 (evA x a).th) rfl;exact this,?_⟩
  refine⟨_,za9 (zab (hdr fx)),?_⟩
  refine⟨d,rfl,hd,?_⟩
  refine⟨i64 (evA x d).th,by have:=zac (zaq dw hat2) (i:=0) (v:=i64 (evA x d).th) rfl;exact this,?_⟩
  exact⟨rb (by rw [h1,Bool.true_and]),dw⟩
 ·have h1:hasM r a d=false:=h1
  exact⟨rb (by rw [h1,Bool.false_and]),dw⟩
theorem zpB {r:RelD} {a d R B:Nat} (fR:RelH w R r) (hr:WrdR r.to) (fB:w.heap[B]?=some (.cells #[At0 b] 79 (0,0))) (fx:ExH w b x q c) (hv:ExV w x q) (ha:a<x.ev.length) (hd:d<x.ev.length) :
  Calls Tryz.prog 102 #[i64 (a:Nat),i64 (d:Nat),At0 R,At0 B] w fun e w'=>e = .returned (.bool (hasM r a d && !decide ((evA x a).th=(evA x d).th)))∧Below w.heap.size w w':=by
 refine zae (S:=sg 29) (sgOk _) (args:=[i64 (a:Nat),i64 (d:Nat),At0 R,At0 B]) Tryz.func102 rfl rfl (Nat.le_of_ble_eq_true rfl) rfl ?_
 have hn:=hv.n
 obtain⟨bq,oq,hqe,hb,hat⟩:=zcD hv.ev ha
 obtain⟨bq2,oq2,hqe2,hb2,hat2⟩:=zcD hv.ev hd
 rw [hqe] at hqe2
 simp only [Option.some.injEq,Addr.mk.injEq,and_true] at hqe2
 rw [← hqe2.1,← hqe2.2] at hat2
 subst hqe
 have dw:Below w.heap.size w w.drew:=(Below.refl _ _).drew
 refine DrawE.ord [] [0,1,2,3,4,5,6,7,8,9,10,11,12,13,14,15,16,17,18,19,20,21,22] (by kernel_rfl) ?_
 refine Calls.mono (zaB (zdU (hdr fR)) hr (by omega) (by omega)) ?_
 rintro e _ ⟨rfl,rfl⟩
 refine⟨Below.refl _ _,?_⟩
 refine biE (fun h1=>?_) fun h1=>?_
 ·have h1:hasM r a d=true:=h1
  refine⟨At0 b,zac (zab (hdr fB)) (i:=0) rfl,?_⟩
  refine⟨_,za9 (zab (hdr fx)),?_⟩
  refine⟨a,rfl,ha,?_⟩
  refine⟨i64 (evA x a).th,by have:=zac (zaq dw hat) (i:=0) (v:=i64 (evA x a).th) rfl;exact this,?_⟩
  refine⟨At0 b,zac (zab (hdr fB)) (i:=0) rfl,?_⟩
  refine⟨_,za9 (zab (hdr fx)),?_⟩
  refine⟨d,rfl,hd,?_⟩
  refine⟨i64 (evA x d).th,by have:=zac (zaq dw hat2) (i:=0) (v:=i64 (evA x d).th) rfl;exact this,?_⟩
  exact⟨rb (by rw [h1,Bool.true_and]),dw⟩
 ·have h1:hasM r a d=false:=h1
  exact⟨rb (by rw [h1,Bool.false_and]),dw⟩
theorem zpp {a d:Nat} (fx:ExH w b x q c) (hv:ExV w x q) (ha:a<x.ev.length) (hd:d<x.ev.length) :
  Calls Tryz.prog 62 #[i64 (a:Nat),i64 (d:Nat),At0 b] w fun e w'=>e = .returned (.bool (zcW x a d))∧Below w.heap.size w w':=by
 refine zae (S:=sg 9) (sgOk _) (args:=[i64 (a:Nat),i64 (d:Nat),At0 b]) Tryz.func62 rfl rfl (Nat.le_of_ble_eq_true rfl) rfl ?_
 refine Calls.mono (zkD (zab fx) hv.ev ha hd) ?_
 rintro e X ⟨rfl,hb⟩
 exact⟨rfl,hb⟩
theorem zlJ {a d B:Nat} (fB:w.heap[B]?=some (.cells #[At0 b] 79 (0,0))) (fx:ExH w b x q c) (hv:ExV w x q) (ha:a<x.ev.length) (hd:d<x.ev.length) :
  Calls Tryz.prog 94 #[i64 (a:Nat),i64 (d:Nat),At0 B] w fun e w'=>e = .returned (.bool (hasM x.po a d&&zcW x a d))∧Below w.heap.size w w':=by
 refine zae (S:=sg 18) (sgOk _) (args:=[i64 (a:Nat),i64 (d:Nat),At0 B]) Tryz.func94 rfl rfl (Nat.le_of_ble_eq_true rfl) rfl ?_
 have hn:=hv.n
 refine⟨At0 b,zac (zab fB) (i:=0) rfl,?_⟩
 refine Calls.mono (zaB (zgd (zab fx) (znl x q c)) hv.po (by omega) (by omega)) ?_
 rintro e _ ⟨rfl,rfl⟩
 refine biE (fun h1=>?_) fun h1=>?_
 ·have h1:hasM x.po a d=true:=h1
  refine⟨At0 b,zac (zab fB) (i:=0) rfl,?_⟩
  refine Calls.mono (zkD (zab fx) hv.ev ha hd) ?_
  rintro e X ⟨rfl,hb⟩
  exact⟨rb (by rw [h1,Bool.true_and]),hb⟩
 ·have h1:hasM x.po a d=false:=h1
  exact⟨rb (by rw [h1,Bool.false_and]),Below.refl _ _⟩
theorem zpA {r:RelD} (fx:ExH w b x q c) (hv:ExV w x q) (hr:WrdR r.to) (hn:r.n=x.ev.length) :
  Calls Tryz.prog 65 #[At0 b,.agg (relC r).toArray] w fun e w'=>e = .returned (.agg (relC (extM x r)).toArray)∧Below w.heap.size w w':=by
 refine zah (S:=sg 9) (sgOk _) (args:=[At0 b,.agg (relC r).toArray]) (.c .p (.c .p .p)) Tryz.func65 rfl rfl (Nat.le_of_ble_eq_true rfl) rfl ?_
 obtain⟨L,hL⟩:=nm (w.heap.size)
 have h19:=hv.n
 refine⟨Unit,fun _=>⟨[(2,At0 L),(3,At0 (L+1)),(4,At0 (L+2))],[]⟩,fun _ X=>X.heap[L]?=some (.cells #[At0 b] 79 (0,0))∧RelH X (L+1) r∧RelH X (L+2) zas∧Below w.heap.size w X,?_,?_⟩
 ·have s1:=World.size_alloc w (.cells #[At0 b] 79)
  have s2:=World.size_alloc (w.alloc (.cells #[At0 b] 79)) (.cells (relC r).toArray 27)
  have b1:Below w.heap.size w (w.alloc (.cells #[At0 b] 79)):=(Below.refl _ w).alloc (Nat.le_refl _) _
  have b2:=b1.alloc b1.size (.cells (relC r).toArray 27)
  have h1:=hnew w (.cells #[At0 b] 79)
  have h2:=hnew (w.alloc (.cells #[At0 b] 79)) (.cells (relC r).toArray 27)
  have h3:=hnew ((w.alloc (.cells #[At0 b] 79)).alloc (.cells (relC r).toArray 27)) (.cells (relC zas).toArray 27)
  rw [s1] at h2 s2
  rw [s2] at h3
  refine⟨(),⟨.cons (by rw [hL];rfl) (.cons (by rw [hL,← s1];rfl) (.cons (by rw [hL,← s2];rfl) .nil)),rfl⟩,by rw [hL];exact hold _ (hold _ h1),by rw [hL];exact hold _ h2,by rw [hL];exact h3,b2.alloc b2.size _⟩
 rintro _ X ⟨fB,fR,f0,hbX⟩
 have fX:=zaa hbX fx
 have hvX:=hv.below hbX
 refine⟨Unit,fun _=>⟨[(4,At0 (L+2))],[]⟩,fun _ Y=>RelH Y (L+2) (extM x r)∧Below w.heap.size w Y,?_,?_⟩
 ·refine⟨i64 r.n,by have:=zac (zab fR) (i:=0) (v:=i64 r.n) rfl;exact this,?_⟩
  have en:extM x r=zde x.ev.length fun a d=>hasM r a d && !decide ((evA x a).th=(evA x d).th):=by
   unfold extM
   rw [hn];rfl
  rw [hn]
  refine Calls.mono (zhc (n:=x.ev.length) (caps := #[At0 (L+1),At0 L]) (g:=102) (p:=fun a d=>hasM r a d && !decide ((evA x a).th=(evA x d).th)) (by omega) (by kernel_rfl) fun a d Z ha hd hb=>zpB (zaa hb fR) hr (zaa hb fB) (zaa hb fX) (hvX.below hb) ha hd) ?_
  rintro e Y ⟨rfl,hbY⟩
  rw [← en]
  have f0:=zaa hbY f0
  refine zar (v := .agg (relC (extM x r)).toArray) (ttOk.get 27 _ rfl) f0 (zad _) (zad _) (zav _) ?_
  exact⟨(),(cvE rfl rfl),zal f0,zaj (hbX.trans (hbY.mono hbX.size)) (by omega) _⟩
 rintro _ Y ⟨f0,hbY⟩
 exact⟨relC (extM x r),zad _,zab f0,rfl,hbY⟩
end
section
variable {b c:Nat} {x:ExD} {q:Option Addr} {w:World}
theorem zjb {md:UInt8} (fx:ExH w b x q c) (hv:ExV w x q) (hT:Tz64M w):Calls Tryz.prog 68 #[At0 b,u8 md] w fun e w'=>e = .returned (.agg (relC (zaz x md)).toArray)∧Below w.heap.size w w':=by
 refine zah (S:=sg 70) (sgOk _) (args:=[At0 b,u8 md]) (.c .p (.c .p (.c .p (.c .p (.c .p (.c .p (.c .p .p))))))) Tryz.func68 rfl rfl (Nat.le_of_ble_eq_true rfl) rfl ?_
 obtain⟨L,hL⟩:=nm (w.heap.size)
 have hn:=hv.n
 obtain⟨n,hnn⟩:=nm (x.ev.length)
 refine⟨Unit,fun _=>⟨[(0,At0 b),(1,u8 md),(4,At0 L)],[]⟩,fun _ X=>RelH X L zas∧Below w.heap.size w X,⟨(),⟨.cons rfl (.cons rfl (.cons (by rw [hL];rfl) .nil)),rfl⟩,by rw [hL];exact hnew w _,(Below.refl _ w).alloc (Nat.le_refl _) _⟩,?_⟩
 rintro _ X ⟨f0,hbX⟩
 refine⟨Unit,fun _=>⟨[(0,At0 b),(1,u8 md),(4,At0 L),(5,i64 n)],[]⟩,fun _ Y=>X=Y,?_,?_⟩
 ·refine⟨_,zac (zab (zaa hbX fx)) (i:=0) rfl,?_⟩
  exact⟨(),⟨.cons rfl (.cons rfl (.cons rfl (.cons (by rw [hnn];rfl) .nil))),rfl⟩,rfl⟩
 rintro _ _ rfl
 refine⟨Unit,fun _=>⟨[(0,At0 b),(1,u8 md),(4,At0 L),(5,i64 n),(6,.slice none 0 0)],[]⟩,fun _ Y=>X=Y,⟨(),(cvE rfl rfl),rfl⟩,?_⟩
 rintro _ _ rfl
 obtain⟨pr,hpr⟩:∃ pr:Nat→Bool,pr=fun i=>decide ((evA x i).k=3)&&decide ((evA x i).m=md):=⟨_,rfl⟩
 obtain⟨B,hB⟩:=nm (X.heap.size)
 refine⟨Option Addr×Nat,fun s=>⟨[(0,At0 b),(4,At0 L),(5,i64 n),(6,.slice s.1 ((List.range n).filter pr).length s.2)],[]⟩,fun s V=>OwnS natE 3 B V s.1 s.2 ((List.range n).filter pr)∧Below B X V,?_,?_⟩
 ·refine⟨_,zac (zab (zaa hbX fx)) (i:=0) rfl,?_⟩
  refine⟨Nat×Option Addr×Nat,fun s=>⟨[(0,At0 b),(1,u8 md),(4,At0 L),(5,i64 n),(6,.slice s.2.1 ((List.range s.1).filter pr).length s.2.2),(23,.slice q x.ev.length c),(24,i64 x.ev.length),(25,i64 (s.1:Nat))],[]⟩,fun s V=>s.1≤x.ev.length∧OwnS natE 3 B V s.2.1 s.2.2 ((List.range s.1).filter pr)∧Below B X V,fun s=>x.ev.length-s.1,(0,none,0),
   (cvE rfl rfl),⟨Nat.zero_le _,OwnS.nil,by rw [hB];exact Below.refl _ _⟩,?_⟩
  rintro⟨k,ps,cs⟩ V ⟨hk,oV,hbV⟩
  dsimp only at hk oV ⊢
  have hVs:B≤V.heap.size:=by have:=hbV.size;omega
  refine biE (fun hc=>?_) fun hc=>?_
  ·have hc:(k:Int)<(x.ev.length:Int):=of_decide_eq_true hc
   have hkl:k<x.ev.length:=by omega
   have hbwV:=hbX.trans (hbV.mono (by rw [hB];exact hbX.size))
   obtain⟨bq,oq,hqe,hb,hat⟩:=zcD (hv.ev.below hbwV) hkl
   have hfl:(List.range (k+1)).filter pr=(List.range k).filter pr++if pr k=true then [k] else []:=by
    rw [List.range_succ,List.filter_append,List.filter_cons,List.filter_nil]
   have hprk:pr k=(decide ((evA x k).k=3)&&decide ((evA x k).m=md)):=by rw [hpr]
   have hll2:((List.range k).filter pr).length≤k:=by
    have:=List.length_filter_le pr (List.range k)
    rw [List.length_range] at this
    exact this
   obtain⟨e,he⟩:=nm (evA x k)
   rw [← he] at hat hprk
   have eq0:some (Value.slice q x.ev.length c)=some (Value.slice (some ⟨bq,oq,none⟩) x.ev.length c):=by rw [hqe]
   subst hqe
   refine⟨k,rfl,hkl,?_⟩
   refine⟨evE.enc e,rfl,hat,hb,?_⟩
   refine zap (X:=V) (v := .agg (evE.enc e).toArray) (ttOk.get 54 _ rfl) rfl rfl (List.all_eq_true.2 fun u hu=>evE.one e u hu) fun U hbU fU sU=>?_
   have fU:U.heap[V.heap.size]?=some (.cells (evE.enc e).toArray 54 (0,0)):=fU
   have oU:=oV.below hbU
   have hbU2:=hbV.trans (hbU.mono hVs)
   have hUs:B≤U.heap.size:=by have:=hbU.size;omega
   have skip:pr k=false→(k+1≤x.ev.length∧OwnS natE 3 B U ps cs ((List.range (k+1)).filter pr)∧Below B X U):=fun h=>⟨hkl,by rw [hfl,h];simpa using oU,hbU2⟩
   have skipE:pr k=false→((List.range (k+1)).filter pr).length=((List.range k).filter pr).length:=fun h=>by rw [hfl,h];simp
   refine⟨u8 e.k,zac (zab fU) (i:=1) rfl,?_⟩
   refine biE (fun h1=>?_) fun h1=>?_
   ·have h1:e.k=3:=za6.1 (of_decide_eq_true h1)
    refine⟨u8 e.m,zac (zab fU) (i:=4) rfl,?_⟩
    refine biE (fun h2=>?_) fun h2=>?_
    ·have h2:e.m=md:=za6.1 (of_decide_eq_true h2)
     have hp1:pr k=true:=by rw [hprk,decide_eq_true h1,decide_eq_true h2];rfl
     rw [if_pos hp1] at hfl
     refine⟨⟨by decide,by decide,rfl⟩,natE.enc k,rfl,?_⟩
     have hb2:Below U.heap.size U (U.alloc (.cells (natE.enc k).toArray 3)):=(Below.refl _ _).alloc (Nat.le_refl _) _
     have sb2:=hb2.size
     unfold opsE zcv
     show SatR _ _
     refine appI (oU.below hb2) (zaX natE k) (by omega) (by omega) fun p' c' S oS gS hat2=>?_
     rw [zbY] at gS
     rw [← hfl] at oS ⊢
     refine⟨((k+1:Nat):Int),(zaf (by omega)).trans (by omega),?_⟩
     exact⟨(k+1,p',c'),(cvE rfl rfl),⟨hkl,oS,hbU2.trans ((hb2.mono hUs).trans (za1 (oU.below hb2) (by omega) (Nat.le_refl _) gS))⟩,by show x.ev.length-(k+1)<x.ev.length-k;omega⟩
    ·have h2:¬ e.m=md:=fun e2=>(of_decide_eq_false h2) (by rw [e2])
     have hp0:pr k=false:=by rw [hprk,decide_eq_false h2,Bool.and_false]
     refine⟨((k+1:Nat):Int),(zaf (by omega)).trans (by omega),?_⟩
     exact⟨(k+1,ps,cs),⟨.cons rfl (.cons rfl (.cons rfl (.cons rfl (.cons (by show _=some (Value.slice ps ((List.range (k+1)).filter pr).length cs);rw [skipE hp0];rfl) (.cons rfl (.cons rfl (.cons rfl .nil))))))),rfl⟩,skip hp0,by show x.ev.length-(k+1)<x.ev.length-k;omega⟩
   ·have h1:¬ e.k=3:=fun e2=>(of_decide_eq_false h1) (by rw [e2];rfl)
    have hp0:pr k=false:=by rw [hprk,decide_eq_false h1];rfl
    refine brF ?_
    refine⟨((k+1:Nat):Int),(zaf (by omega)).trans (by omega),?_⟩
    exact⟨(k+1,ps,cs),⟨.cons rfl (.cons rfl (.cons rfl (.cons rfl (.cons (by show _=some (Value.slice ps ((List.range (k+1)).filter pr).length cs);rw [skipE hp0];rfl) (.cons rfl (.cons rfl (.cons rfl .nil))))))),rfl⟩,skip hp0,by show x.ev.length-(k+1)<x.ev.length-k;omega⟩
  ·have hc:¬ (k:Int)<(x.ev.length:Int):=of_decide_eq_false hc
   obtain rfl:k=x.ev.length:=by omega
   rw [← hnn] at oV ⊢
   exact⟨(ps,cs),(cvE rfl rfl),oV,hbV⟩
 rintro⟨ps,cs⟩ V ⟨oV,hbV⟩
 dsimp only at oV ⊢
 have hVs:B≤V.heap.size:=by have:=hbV.size;omega
 have hbwV:=hbX.trans (hbV.mono (by rw [hB];exact hbX.size))
 have hmask:orG ((List.range n).filter pr)=zcd x md:=by rw [hpr,hnn];rfl
 have hlt64:∀ i∈(List.range n).filter pr,i<64:=fun i hi=>by
  have:=List.mem_range.1 (List.mem_filter.1 hi).1
  omega
 have hlen:((List.range n).filter pr).length≤n:=by
  have:=List.length_filter_le pr (List.range n)
  rw [List.length_range] at this
  exact this
 refine⟨Unit,fun _=>⟨[(0,At0 b),(4,At0 L),(5,i64 n),(9,s64 (zcd x md))],[]⟩,fun _ Y=>V=Y,?_,?_⟩
 ·refine Calls.mono (Of_c oV.row hlt64 (by omega)) ?_
  rintro e Y ⟨rfl,rfl⟩
  rw [hmask]
  exact⟨(),(cvE rfl rfl),rfl⟩
 rintro _ _ rfl
 have hm64:zcd x md<2^64:=by rw [← hmask];exact zm7 hlt64
 replace f0:=zaa (by rw [← hB];exact hbV) f0
 have fV:=zaa hbwV fx
 have hvV:=hv.below hbwV
 have hTV:=hT.below hbwV
 clear oV hbX hbV hlen hlt64 hmask hpr hB hVs
 clear B ps cs pr X
 have idw:WrdR (idR n (zcd x md)).to:=fun i hi=>by
  unfold idR
  exact zdq (fun i _ _=>Nat.lt_of_le_of_lt Nat.and_le_left hm64) i hi
 have hba:∀ (A:World) (o:Obj),Below A.heap.size A (A.alloc o):=fun A o=>(Below.refl _ _).alloc (Nat.le_refl _) _
 refine⟨Nat,fun F=>⟨[(0,At0 b),(4,At0 L),(11,At0 F)],[]⟩,fun F Z=>RelH Z F (zbD x.po (idR n (zcd x md))).1∧RelH Z L zas∧Below w.heap.size w Z,?_,?_⟩
 ·have dV:Below V.heap.size V V.drew:=(Below.refl _ _).drew
  have put:∀ (W:World) (b3:Nat),Below V.heap.size V W→RelH W b3 zas→V.heap.size≤b3→∀ {K:World→Prop},(∀ Y,(RelH Y b3 (zbD x.po (idR n (zcd x md))).1∧RelH Y L zas∧Below w.heap.size w Y)→K Y) →
    SatR ((storeVar 27 ⟨b3,0,none⟩ (.agg (relC (zbD x.po (idR n (zcd x md))).1).toArray)).run Tryz.prog W) fun _ w'=>K w':=by
   intro W b3 hW f3 g3 K k
   refine zar (v := .agg (relC (zbD x.po (idR n (zcd x md))).1).toArray) (ttOk.get 27 _ rfl) f3 (zad _) (zad _) (zav _) ?_
   have hL2:=hlt f0
   exact k _ ⟨zal f3,(zam (by omega)).trans (zaa hW f0),zaj (hbwV.trans (hW.mono hbwV.size)) (by have:=hbwV.size;omega) _⟩
  refine DrawE.treeQ [12] (.op 0 (.op 1 (.op 2 (.op 3 (.op 4 (.op 5 (.alt (.op 11 (.op 6 (.op 7 (.op 8 (.op 9 (.op 10 (.op 12 (.op 13 (.nil))))))))) (.op 6 (.alt (.op 11 (.op 7 (.op 8 (.op 9 (.op 10 (.op 12 (.op 13 (.nil)))))))) (.op 7 (.op 8 (.op 9 (.op 10 (.op 11 (.op 12 (.op 13 (.nil))))))))))))))))) (by kernel_rfl) ?_
  refine⟨relC x.po,zad _,zaN (hdr fV) (i:=0) (by decide) rfl,hlt (hdr fV),?_⟩
  refine And.intro ?_ ?_
  ·refine⟨hba _ _,?_⟩
   have b1:=dV.alloc (Nat.le_refl _) (.cells (relC zas).toArray 27)
   refine Calls.mono (Id_c (n:=n) (by omega) hm64) ?_
   rintro e Y ⟨rfl,hbY⟩
   refine⟨hbY,?_⟩
   have b2:=b1.trans (hbY.mono b1.size)
   refine Calls.mono (zdH hvV.po idw (hTV.below b2)) ?_
   rintro e Z ⟨rfl,hbZ⟩
   refine⟨hbZ,?_⟩
   refine put Z V.heap.size (b2.trans (hbZ.mono b2.size)) (zaa hbZ (zaa hbY (hnew V.drew _))) (Nat.le_refl _) ?_
   exact fun Y hY=>⟨V.heap.size,(cvE rfl rfl),hY⟩
  refine Calls.mono (Id_c (n:=n) (by omega) hm64) ?_
  rintro e Y ⟨rfl,hbY⟩
  refine⟨hbY,?_⟩
  have b1:=dV.trans (hbY.mono dV.size)
  refine And.intro ?_ ?_
  ·refine⟨hba _ _,?_⟩
   have b2:=b1.alloc b1.size (.cells (relC zas).toArray 27)
   refine Calls.mono (zdH hvV.po idw (hTV.below b2)) ?_
   rintro e Z ⟨rfl,hbZ⟩
   refine⟨hbZ,?_⟩
   refine put Z Y.heap.size (b2.trans (hbZ.mono b2.size)) (zaa hbZ (hnew Y _)) b1.size ?_
   exact fun V2 hV=>⟨Y.heap.size,(cvE rfl rfl),hV⟩
  ·refine Calls.mono (zdH hvV.po idw (hTV.below b1)) ?_
   rintro e Z ⟨rfl,hbZ⟩
   refine⟨hbZ,?_⟩
   have b2:=b1.trans (hbZ.mono b1.size)
   refine⟨hba _ _,?_⟩
   refine put _ Z.heap.size (b2.alloc b2.size _) (hnew Z _) b2.size ?_
   exact fun V2 hV=>⟨Z.heap.size,(cvE rfl rfl),hV⟩
 clear f0 fV hvV hTV hbwV
 clear V
 rintro F V ⟨f1,f0,hbV⟩
 have fV:=zaa hbV fx
 have hTV:=hT.below hbV
 have hFw:=zcT hv.po idw
 have efen:(zbD (zbD x.po (idR n (zcd x md))).1 x.po).1=zaz x md:=by rw [hnn];rfl
 refine⟨Nat,fun G=>⟨[(4,At0 L),(13,At0 G)],[]⟩,fun G Z=>RelH Z G (zaz x md)∧RelH Z L zas∧Below w.heap.size w Z,?_,?_⟩
 ·have dV:Below V.heap.size V V.drew:=(Below.refl _ _).drew
  have put:∀ (W:World) (b3:Nat),Below V.heap.size V W→RelH W b3 zas→V.heap.size≤b3→∀ {K:World→Prop},(∀ Y,(RelH Y b3 (zaz x md)∧RelH Y L zas∧Below w.heap.size w Y)→K Y) →
    SatR ((storeVar 27 ⟨b3,0,none⟩ (.agg (relC (zaz x md)).toArray)).run Tryz.prog W) fun _ w'=>K w':=by
   intro W b3 hW f3 g3 K k
   refine zar (v := .agg (relC (zaz x md)).toArray) (ttOk.get 27 _ rfl) f3 (zad _) (zad _) (zav _) ?_
   have hL2:=hlt f0
   exact k _ ⟨zal f3,(zam (by omega)).trans (zaa hW f0),zaj (hbV.trans (hW.mono hbV.size)) (by have:=hbV.size;omega) _⟩
  refine DrawE.treeQ [10] (.op 0 (.op 1 (.op 2 (.op 3 (.op 4 (.alt (.op 9 (.op 5 (.op 6 (.op 7 (.op 8 (.op 10 (.op 11 .nil))))))) (.op 5 (.op 6 (.op 7 (.op 8 (.op 9 (.op 10 (.op 11 .nil))))))))))))) (by kernel_rfl) ?_
  refine⟨relC _,zad _,zab (hdr f1),hlt (hdr f1),?_⟩
  refine⟨relC x.po,zad _,zaN (hdr fV) (i:=0) (by decide) rfl,hlt (hdr fV),?_⟩
  refine And.intro ?_ ?_
  ·refine⟨hba _ _,?_⟩
   have b1:=dV.alloc (Nat.le_refl _) (.cells (relC zas).toArray 27)
   refine Calls.mono (zdH hFw hv.po (hTV.below b1)) ?_
   rintro e Y ⟨rfl,hbY⟩
   refine⟨hbY,?_⟩
   rw [efen]
   refine put Y V.heap.size (b1.trans (hbY.mono b1.size)) (zaa hbY (hnew V.drew _)) (Nat.le_refl _) ?_
   exact fun Y hY=>⟨V.heap.size,(cvE rfl rfl),hY⟩
  ·refine Calls.mono (zdH hFw hv.po (hTV.below dV)) ?_
   rintro e Y ⟨rfl,hbY⟩
   refine⟨hbY,?_⟩
   have b1:=dV.trans (hbY.mono dV.size)
   refine⟨hba _ _,?_⟩
   rw [efen]
   refine put _ Y.heap.size (b1.alloc b1.size _) (hnew Y _) b1.size ?_
   exact fun V2 hV=>⟨Y.heap.size,(cvE rfl rfl),hV⟩
 rintro G Z ⟨f1,f0,hbZ⟩
 refine⟨relC (zaz x md),zad _,zab f1,hlt f1,?_⟩
 refine zar (v := .agg (relC (zaz x md)).toArray) (ttOk.get 27 _ rfl) f0 (zad _) (zad _) (zav _) ?_
 exact⟨relC (zaz x md),zad _,zab (zal f0),rfl,zaj hbZ (by omega) _⟩
end
section
variable {w:World} {b c:Nat} {x:ExD} {q:Option Addr} {f l s:RelD}
theorem znO {a d:Nat}:Calls Tryz.prog 131 #[At0 b,i64 (a:Nat),i64 (d:Nat)] w fun e w'=>e = .returned (.bool (zgC 1 x f l s a d))∧Below w.heap.size w w':=by
 refine zae (S:=sg 7) (sgOk _) (args:=[At0 b,i64 (a:Nat),i64 (d:Nat)]) Tryz.func131 rfl rfl (Nat.le_of_ble_eq_true rfl) rfl ?_
 exact⟨rfl,Below.refl _ _⟩
theorem znN {a d:Nat}:Calls Tryz.prog 132 #[At0 b,i64 (a:Nat),i64 (d:Nat)] w fun e w'=>e = .returned (.bool (zgC 2 x f l s a d))∧Below w.heap.size w w':=by
 refine zae (S:=sg 7) (sgOk _) (args:=[At0 b,i64 (a:Nat),i64 (d:Nat)]) Tryz.func132 rfl rfl (Nat.le_of_ble_eq_true rfl) rfl ?_
 exact⟨rfl,Below.refl _ _⟩
theorem znM {a d:Nat} (h:ScnV w b x q c f l s) (ha:a<x.ev.length) (hd:d<x.ev.length):Calls Tryz.prog 133 #[At0 b,i64 (a:Nat),i64 (d:Nat)] w fun e w'=>e = .returned (.bool (zgC 3 x f l s a d))∧Below w.heap.size w w':=by
 refine zae (S:=sg 21) (sgOk _) (args:=[At0 b,i64 (a:Nat),i64 (d:Nat)]) Tryz.func133 rfl rfl (Nat.le_of_ble_eq_true rfl) rfl ?_
 have hn:=h.v.n
 have hA:a<48:=by omega
 have hD:d<48:=by omega
 have hbw:=Below.refl w.heap.size w
 refine Calls.mono (zfd h ha) ?_
 rintro e _ ⟨rfl,rfl⟩
 refine biE (fun h1=>?_) fun h1=>?_
 ·have h1:isR x a=true:=h1
  refine brT ?_
  exact⟨rb (by show _=(isR x a||(isW x d||zce x f a d));rw [h1];rfl),hbw⟩
 ·have h1:isR x a=false:=h1
  refine Calls.mono (zbl h hd) ?_
  rintro e _ ⟨rfl,rfl⟩
  refine biE (fun h2=>?_) fun h2=>?_
  ·have h2:isW x d=true:=h2
   exact⟨rb (by show _=(isR x a||(isW x d||zce x f a d));rw [h1,h2];rfl),hbw⟩
  ·have h2:isW x d=false:=h2
   refine Calls.mono (zlL h ha hd) ?_
   rintro e _ ⟨rfl,rfl⟩
   exact⟨rb (by show _=(isR x a||(isW x d||zce x f a d));rw [h1,h2];rfl),hbw⟩
theorem znL {a d:Nat} (h:ScnV w b x q c f l s) (ha:a<x.ev.length) (hd:d<x.ev.length):Calls Tryz.prog 137 #[At0 b,i64 (a:Nat),i64 (d:Nat)] w fun e w'=>e = .returned (.bool (zgC 4 x f l s a d))∧Below w.heap.size w w':=by
 refine zae (S:=sg 37) (sgOk _) (args:=[At0 b,i64 (a:Nat),i64 (d:Nat)]) Tryz.func137 rfl rfl (Nat.le_of_ble_eq_true rfl) rfl ?_
 have hn:=h.v.n
 have hA:a<48:=by omega
 have hD:d<48:=by omega
 have hbw:=Below.refl w.heap.size w
 refine Calls.mono (zfd h ha) ?_
 rintro e _ ⟨rfl,rfl⟩
 refine biE (fun h1=>?_) fun h1=>?_
 ·have h1:isR x a=true:=h1
  refine brT ?_
  exact⟨rb (by show _=(isR x a||(zce x f a d||(isW x d&&(zcW x a d||hasM s a d))));rw [h1];rfl),hbw⟩
 ·have h1:isR x a=false:=h1
  refine Calls.mono (zlL h ha hd) ?_
  rintro e _ ⟨rfl,rfl⟩
  refine biE (fun h2=>?_) fun h2=>?_
  ·have h2:zce x f a d=true:=h2
   exact⟨rb (by show _=(isR x a||(zce x f a d||(isW x d&&(zcW x a d||hasM s a d))));rw [h1,h2];rfl),hbw⟩
  ·have h2:zce x f a d=false:=h2
   refine Calls.mono (zbl h hd) ?_
   rintro e _ ⟨rfl,rfl⟩
   refine biE (fun h3=>?_) fun h3=>?_
   ·have h3:isW x d=true:=h3
    refine Calls.mono (zkD h.cells h.v.ev ha hd) ?_
    rintro e Z4 ⟨rfl,hbZ4⟩
    have h:=h.below hbZ4
    have hbw:=hbw.trans (hbZ4.mono hbw.size)
    refine biE (fun h4=>?_) fun h4=>?_
    ·have h4:zcW x a d=true:=h4
     exact⟨rb (by show _=(isR x a||(zce x f a d||(isW x d&&(zcW x a d||hasM s a d))));rw [h1,h2,h3,h4];rfl),hbw⟩
    ·have h4:zcW x a d=false:=h4
     refine Calls.mono (zaB h.stores h.ws hA hD) ?_
     rintro e _ ⟨rfl,rfl⟩
     exact⟨rb (by show _=(isR x a||(zce x f a d||(isW x d&&(zcW x a d||hasM s a d))));rw [h1,h2,h3,h4];rfl),hbw⟩
   ·have h3:isW x d=false:=h3
    exact⟨rb (by show _=(isR x a||(zce x f a d||(isW x d&&(zcW x a d||hasM s a d))));rw [h1,h2,h3];rfl),hbw⟩
theorem znK {a d:Nat} (h:ScnV w b x q c f l s) (ha:a<x.ev.length) (hd:d<x.ev.length):Calls Tryz.prog 138 #[At0 b,i64 (a:Nat),i64 (d:Nat)] w fun e w'=>e = .returned (.bool (zgC 5 x f l s a d))∧Below w.heap.size w w':=by
 refine zae (S:=sg 49) (sgOk _) (args:=[At0 b,i64 (a:Nat),i64 (d:Nat)]) Tryz.func138 rfl rfl (Nat.le_of_ble_eq_true rfl) rfl ?_
 have hn:=h.v.n
 have hA:a<48:=by omega
 have hD:d<48:=by omega
 have hbw:=Below.refl w.heap.size w
 refine Calls.mono (zfd h ha) ?_
 rintro e _ ⟨rfl,rfl⟩
 refine biE (fun h1=>?_) fun h1=>?_
 ·have h1:isR x a=true:=h1
  refine Calls.mono (zdQ (md:=1) h ha) ?_
  rintro e _ ⟨rfl,rfl⟩
  refine biE (fun h2=>?_) fun h2=>?_
  ·have h2:zaH x a 1=true:=h2
   refine brT ?_
   refine brT ?_
   exact⟨rb (by show _=((isR x a&&(zaH x a 1||hasM l a d))||((isW x d&&(zaH x d 2||hasM s a d))||hasM f a d));rw [h1,h2];rfl),hbw⟩
  ·have h2:zaH x a 1=false:=h2
   refine Calls.mono (zaB h.loads h.wl hA hD) ?_
   rintro e _ ⟨rfl,rfl⟩
   refine biE (fun h3=>?_) fun h3=>?_
   ·have h3:hasM l a d=true:=h3
    refine brT ?_
    exact⟨rb (by show _=((isR x a&&(zaH x a 1||hasM l a d))||((isW x d&&(zaH x d 2||hasM s a d))||hasM f a d));rw [h1,h2,h3];rfl),hbw⟩
   ·have h3:hasM l a d=false:=h3
    refine Calls.mono (zbl h hd) ?_
    rintro e _ ⟨rfl,rfl⟩
    refine biE (fun h4=>?_) fun h4=>?_
    ·have h4:isW x d=true:=h4
     refine Calls.mono (zdQ (md:=2) h hd) ?_
     rintro e _ ⟨rfl,rfl⟩
     refine biE (fun h5=>?_) fun h5=>?_
     ·have h5:zaH x d 2=true:=h5
      refine brT ?_
      exact⟨rb (by show _=((isR x a&&(zaH x a 1||hasM l a d))||((isW x d&&(zaH x d 2||hasM s a d))||hasM f a d));rw [h1,h2,h3,h4,h5];rfl),hbw⟩
     ·have h5:zaH x d 2=false:=h5
      refine Calls.mono (zaB h.stores h.ws hA hD) ?_
      rintro e _ ⟨rfl,rfl⟩
      refine biE (fun h6=>?_) fun h6=>?_
      ·have h6:hasM s a d=true:=h6
       exact⟨rb (by show _=((isR x a&&(zaH x a 1||hasM l a d))||((isW x d&&(zaH x d 2||hasM s a d))||hasM f a d));rw [h1,h2,h3,h4,h5,h6];rfl),hbw⟩
      ·have h6:hasM s a d=false:=h6
       refine Calls.mono (zaB h.full h.wf hA hD) ?_
       rintro e _ ⟨rfl,rfl⟩
       exact⟨rb (by show _=((isR x a&&(zaH x a 1||hasM l a d))||((isW x d&&(zaH x d 2||hasM s a d))||hasM f a d));rw [h1,h2,h3,h4,h5,h6];rfl),hbw⟩
    ·have h4:isW x d=false:=h4
     refine brF ?_
     refine Calls.mono (zaB h.full h.wf hA hD) ?_
     rintro e _ ⟨rfl,rfl⟩
     exact⟨rb (by show _=((isR x a&&(zaH x a 1||hasM l a d))||((isW x d&&(zaH x d 2||hasM s a d))||hasM f a d));rw [h1,h2,h3,h4];rfl),hbw⟩
 ·have h1:isR x a=false:=h1
  refine brF ?_
  refine Calls.mono (zbl h hd) ?_
  rintro e _ ⟨rfl,rfl⟩
  refine biE (fun h9=>?_) fun h9=>?_
  ·have h9:isW x d=true:=h9
   refine Calls.mono (zdQ (md:=2) h hd) ?_
   rintro e _ ⟨rfl,rfl⟩
   refine biE (fun h10=>?_) fun h10=>?_
   ·have h10:zaH x d 2=true:=h10
    refine brT ?_
    exact⟨rb (by show _=((isR x a&&(zaH x a 1||hasM l a d))||((isW x d&&(zaH x d 2||hasM s a d))||hasM f a d));rw [h1,h9,h10];rfl),hbw⟩
   ·have h10:zaH x d 2=false:=h10
    refine Calls.mono (zaB h.stores h.ws hA hD) ?_
    rintro e _ ⟨rfl,rfl⟩
    refine biE (fun h11=>?_) fun h11=>?_
    ·have h11:hasM s a d=true:=h11
     exact⟨rb (by show _=((isR x a&&(zaH x a 1||hasM l a d))||((isW x d&&(zaH x d 2||hasM s a d))||hasM f a d));rw [h1,h9,h10,h11];rfl),hbw⟩
    ·have h11:hasM s a d=false:=h11
     refine Calls.mono (zaB h.full h.wf hA hD) ?_
     rintro e _ ⟨rfl,rfl⟩
     exact⟨rb (by show _=((isR x a&&(zaH x a 1||hasM l a d))||((isW x d&&(zaH x d 2||hasM s a d))||hasM f a d));rw [h1,h9,h10,h11];rfl),hbw⟩
  ·have h9:isW x d=false:=h9
   refine brF ?_
   refine Calls.mono (zaB h.full h.wf hA hD) ?_
   rintro e _ ⟨rfl,rfl⟩
   exact⟨rb (by show _=((isR x a&&(zaH x a 1||hasM l a d))||((isW x d&&(zaH x d 2||hasM s a d))||hasM f a d));rw [h1,h9];rfl),hbw⟩
theorem znJ {a d:Nat} (h:ScnV w b x q c f l s) (ha:a<x.ev.length) (hd:d<x.ev.length):Calls Tryz.prog 140 #[At0 b,i64 (a:Nat),i64 (d:Nat)] w fun e w'=>e = .returned (.bool (zgC 6 x f l s a d))∧Below w.heap.size w w':=by
 refine zae (S:=sg 81) (sgOk _) (args:=[At0 b,i64 (a:Nat),i64 (d:Nat)]) Tryz.func140 rfl rfl (Nat.le_of_ble_eq_true rfl) rfl ?_
 have hn:=h.v.n
 have hA:a<48:=by omega
 have hD:d<48:=by omega
 have hbw:=Below.refl w.heap.size w
 refine Calls.mono (zaB (zgd h.cells (zpC x q c)) h.v.dt hA hD) ?_
 rintro e _ ⟨rfl,rfl⟩
 refine biE (fun h1=>?_) fun h1=>?_
 ·have h1:hasM x.dt a d=true:=h1
  refine brT ?_
  refine brT ?_
  refine brT ?_
  refine brT ?_
  exact⟨rb (by show _=(hasM x.dt a d||((hasM x.ct a d&&isW x d)||(hasM x.rm a d||(hasM f a d||((hasM l a d&&(isR x a&&isR x d))||(hasM s a d&&(isW x a&&isW x d)))))));rw [h1];rfl),hbw⟩
 ·have h1:hasM x.dt a d=false:=h1
  refine Calls.mono (zaB (zgd h.cells (zpD x q c)) h.v.ct hA hD) ?_
  rintro e _ ⟨rfl,rfl⟩
  refine biE (fun h2=>?_) fun h2=>?_
  ·have h2:hasM x.ct a d=true:=h2
   refine Calls.mono (zbl h hd) ?_
   rintro e _ ⟨rfl,rfl⟩
   refine biE (fun h3=>?_) fun h3=>?_
   ·have h3:isW x d=true:=h3
    refine brT ?_
    refine brT ?_
    refine brT ?_
    exact⟨rb (by show _=(hasM x.dt a d||((hasM x.ct a d&&isW x d)||(hasM x.rm a d||(hasM f a d||((hasM l a d&&(isR x a&&isR x d))||(hasM s a d&&(isW x a&&isW x d)))))));rw [h1,h2,h3];rfl),hbw⟩
   ·have h3:isW x d=false:=h3
    refine Calls.mono (zaB (zgd h.cells (znk x q c)) h.v.rm hA hD) ?_
    rintro e _ ⟨rfl,rfl⟩
    refine biE (fun h4=>?_) fun h4=>?_
    ·have h4:hasM x.rm a d=true:=h4
     refine brT ?_
     refine brT ?_
     exact⟨rb (by show _=(hasM x.dt a d||((hasM x.ct a d&&isW x d)||(hasM x.rm a d||(hasM f a d||((hasM l a d&&(isR x a&&isR x d))||(hasM s a d&&(isW x a&&isW x d)))))));rw [h1,h2,h3,h4];rfl),hbw⟩
    ·have h4:hasM x.rm a d=false:=h4
     refine Calls.mono (zaB h.full h.wf hA hD) ?_
     rintro e _ ⟨rfl,rfl⟩
     refine biE (fun h5=>?_) fun h5=>?_
     ·have h5:hasM f a d=true:=h5
      refine brT ?_
      exact⟨rb (by show _=(hasM x.dt a d||((hasM x.ct a d&&isW x d)||(hasM x.rm a d||(hasM f a d||((hasM l a d&&(isR x a&&isR x d))||(hasM s a d&&(isW x a&&isW x d)))))));rw [h1,h2,h3,h4,h5];rfl),hbw⟩
     ·have h5:hasM f a d=false:=h5
      refine Calls.mono (zaB h.loads h.wl hA hD) ?_
      rintro e _ ⟨rfl,rfl⟩
      refine biE (fun h6=>?_) fun h6=>?_
      ·have h6:hasM l a d=true:=h6
       refine Calls.mono (zfd h ha) ?_
       rintro e _ ⟨rfl,rfl⟩
       refine biE (fun h7=>?_) fun h7=>?_
       ·have h7:isR x a=true:=h7
        refine Calls.mono (zfd h hd) ?_
        rintro e _ ⟨rfl,rfl⟩
        refine biE (fun h8=>?_) fun h8=>?_
        ·have h8:isR x d=true:=h8
         exact⟨rb (by show _=(hasM x.dt a d||((hasM x.ct a d&&isW x d)||(hasM x.rm a d||(hasM f a d||((hasM l a d&&(isR x a&&isR x d))||(hasM s a d&&(isW x a&&isW x d)))))));rw [h1,h2,h3,h4,h5,h6,h7,h8];rfl),hbw⟩
        ·have h8:isR x d=false:=h8
         refine Calls.mono (zaB h.stores h.ws hA hD) ?_
         rintro e _ ⟨rfl,rfl⟩
         refine biE (fun h9=>?_) fun h9=>?_
         ·have h9:hasM s a d=true:=h9
          refine Calls.mono (zbl h ha) ?_
          rintro e _ ⟨rfl,rfl⟩
          refine biE (fun h10=>?_) fun h10=>?_
          ·have h10:isW x a=true:=h10
           refine Calls.mono (zbl h hd) ?_
           rintro e _ ⟨rfl,rfl⟩
           exact⟨rb (by show _=(hasM x.dt a d||((hasM x.ct a d&&isW x d)||(hasM x.rm a d||(hasM f a d||((hasM l a d&&(isR x a&&isR x d))||(hasM s a d&&(isW x a&&isW x d)))))));rw [h1,h2,h3,h4,h5,h6,h7,h8,h9,h10];rfl),hbw⟩
          ·have h10:isW x a=false:=h10
           exact⟨rb (by show _=(hasM x.dt a d||((hasM x.ct a d&&isW x d)||(hasM x.rm a d||(hasM f a d||((hasM l a d&&(isR x a&&isR x d))||(hasM s a d&&(isW x a&&isW x d)))))));rw [h1,h2,h3,h4,h5,h6,h7,h8,h9,h10];rfl),hbw⟩
         ·have h9:hasM s a d=false:=h9
          refine brF ?_
          exact⟨rb (by show _=(hasM x.dt a d||((hasM x.ct a d&&isW x d)||(hasM x.rm a d||(hasM f a d||((hasM l a d&&(isR x a&&isR x d))||(hasM s a d&&(isW x a&&isW x d)))))));rw [h1,h2,h3,h4,h5,h6,h7,h8,h9];rfl),hbw⟩
       ·have h7:isR x a=false:=h7
        refine brF ?_
        refine Calls.mono (zaB h.stores h.ws hA hD) ?_
        rintro e _ ⟨rfl,rfl⟩
        refine biE (fun h12=>?_) fun h12=>?_
        ·have h12:hasM s a d=true:=h12
         refine Calls.mono (zbl h ha) ?_
         rintro e _ ⟨rfl,rfl⟩
         refine biE (fun h13=>?_) fun h13=>?_
         ·have h13:isW x a=true:=h13
          refine Calls.mono (zbl h hd) ?_
          rintro e _ ⟨rfl,rfl⟩
          exact⟨rb (by show _=(hasM x.dt a d||((hasM x.ct a d&&isW x d)||(hasM x.rm a d||(hasM f a d||((hasM l a d&&(isR x a&&isR x d))||(hasM s a d&&(isW x a&&isW x d)))))));rw [h1,h2,h3,h4,h5,h6,h7,h12,h13];rfl),hbw⟩
         ·have h13:isW x a=false:=h13
          exact⟨rb (by show _=(hasM x.dt a d||((hasM x.ct a d&&isW x d)||(hasM x.rm a d||(hasM f a d||((hasM l a d&&(isR x a&&isR x d))||(hasM s a d&&(isW x a&&isW x d)))))));rw [h1,h2,h3,h4,h5,h6,h7,h12,h13];rfl),hbw⟩
        ·have h12:hasM s a d=false:=h12
         refine brF ?_
         exact⟨rb (by show _=(hasM x.dt a d||((hasM x.ct a d&&isW x d)||(hasM x.rm a d||(hasM f a d||((hasM l a d&&(isR x a&&isR x d))||(hasM s a d&&(isW x a&&isW x d)))))));rw [h1,h2,h3,h4,h5,h6,h7,h12];rfl),hbw⟩
      ·have h6:hasM l a d=false:=h6
       refine brF ?_
       refine brF ?_
       refine Calls.mono (zaB h.stores h.ws hA hD) ?_
       rintro e _ ⟨rfl,rfl⟩
       refine biE (fun h15=>?_) fun h15=>?_
       ·have h15:hasM s a d=true:=h15
        refine Calls.mono (zbl h ha) ?_
        rintro e _ ⟨rfl,rfl⟩
        refine biE (fun h16=>?_) fun h16=>?_
        ·have h16:isW x a=true:=h16
         refine Calls.mono (zbl h hd) ?_
         rintro e _ ⟨rfl,rfl⟩
         exact⟨rb (by show _=(hasM x.dt a d||((hasM x.ct a d&&isW x d)||(hasM x.rm a d||(hasM f a d||((hasM l a d&&(isR x a&&isR x d))||(hasM s a d&&(isW x a&&isW x d)))))));rw [h1,h2,h3,h4,h5,h6,h15,h16];rfl),hbw⟩
        ·have h16:isW x a=false:=h16
         exact⟨rb (by show _=(hasM x.dt a d||((hasM x.ct a d&&isW x d)||(hasM x.rm a d||(hasM f a d||((hasM l a d&&(isR x a&&isR x d))||(hasM s a d&&(isW x a&&isW x d)))))));rw [h1,h2,h3,h4,h5,h6,h15,h16];rfl),hbw⟩
       ·have h15:hasM s a d=false:=h15
        refine brF ?_
        exact⟨rb (by show _=(hasM x.dt a d||((hasM x.ct a d&&isW x d)||(hasM x.rm a d||(hasM f a d||((hasM l a d&&(isR x a&&isR x d))||(hasM s a d&&(isW x a&&isW x d)))))));rw [h1,h2,h3,h4,h5,h6,h15];rfl),hbw⟩
  ·have h2:hasM x.ct a d=false:=h2
   refine brF ?_
   refine Calls.mono (zaB (zgd h.cells (znk x q c)) h.v.rm hA hD) ?_
   rintro e _ ⟨rfl,rfl⟩
   refine biE (fun h18=>?_) fun h18=>?_
   ·have h18:hasM x.rm a d=true:=h18
    refine brT ?_
    refine brT ?_
    exact⟨rb (by show _=(hasM x.dt a d||((hasM x.ct a d&&isW x d)||(hasM x.rm a d||(hasM f a d||((hasM l a d&&(isR x a&&isR x d))||(hasM s a d&&(isW x a&&isW x d)))))));rw [h1,h2,h18];rfl),hbw⟩
   ·have h18:hasM x.rm a d=false:=h18
    refine Calls.mono (zaB h.full h.wf hA hD) ?_
    rintro e _ ⟨rfl,rfl⟩
    refine biE (fun h19=>?_) fun h19=>?_
    ·have h19:hasM f a d=true:=h19
     refine brT ?_
     exact⟨rb (by show _=(hasM x.dt a d||((hasM x.ct a d&&isW x d)||(hasM x.rm a d||(hasM f a d||((hasM l a d&&(isR x a&&isR x d))||(hasM s a d&&(isW x a&&isW x d)))))));rw [h1,h2,h18,h19];rfl),hbw⟩
    ·have h19:hasM f a d=false:=h19
     refine Calls.mono (zaB h.loads h.wl hA hD) ?_
     rintro e _ ⟨rfl,rfl⟩
     refine biE (fun h20=>?_) fun h20=>?_
     ·have h20:hasM l a d=true:=h20
      refine Calls.mono (zfd h ha) ?_
      rintro e _ ⟨rfl,rfl⟩
      refine biE (fun h21=>?_) fun h21=>?_
      ·have h21:isR x a=true:=h21
       refine Calls.mono (zfd h hd) ?_
       rintro e _ ⟨rfl,rfl⟩
       refine biE (fun h22=>?_) fun h22=>?_
       ·have h22:isR x d=true:=h22
        exact⟨rb (by show _=(hasM x.dt a d||((hasM x.ct a d&&isW x d)||(hasM x.rm a d||(hasM f a d||((hasM l a d&&(isR x a&&isR x d))||(hasM s a d&&(isW x a&&isW x d)))))));rw [h1,h2,h18,h19,h20,h21,h22];rfl),hbw⟩
       ·have h22:isR x d=false:=h22
        refine Calls.mono (zaB h.stores h.ws hA hD) ?_
        rintro e _ ⟨rfl,rfl⟩
        refine biE (fun h23=>?_) fun h23=>?_
        ·have h23:hasM s a d=true:=h23
         refine Calls.mono (zbl h ha) ?_
         rintro e _ ⟨rfl,rfl⟩
         refine biE (fun h24=>?_) fun h24=>?_
         ·have h24:isW x a=true:=h24
          refine Calls.mono (zbl h hd) ?_
          rintro e _ ⟨rfl,rfl⟩
          exact⟨rb (by show _=(hasM x.dt a d||((hasM x.ct a d&&isW x d)||(hasM x.rm a d||(hasM f a d||((hasM l a d&&(isR x a&&isR x d))||(hasM s a d&&(isW x a&&isW x d)))))));rw [h1,h2,h18,h19,h20,h21,h22,h23,h24];rfl),hbw⟩
         ·have h24:isW x a=false:=h24
          exact⟨rb (by show _=(hasM x.dt a d||((hasM x.ct a d&&isW x d)||(hasM x.rm a d||(hasM f a d||((hasM l a d&&(isR x a&&isR x d))||(hasM s a d&&(isW x a&&isW x d)))))));rw [h1,h2,h18,h19,h20,h21,h22,h23,h24];rfl),hbw⟩
        ·have h23:hasM s a d=false:=h23
         refine brF ?_
         exact⟨rb (by show _=(hasM x.dt a d||((hasM x.ct a d&&isW x d)||(hasM x.rm a d||(hasM f a d||((hasM l a d&&(isR x a&&isR x d))||(hasM s a d&&(isW x a&&isW x d)))))));rw [h1,h2,h18,h19,h20,h21,h22,h23];rfl),hbw⟩
      ·have h21:isR x a=false:=h21
       refine brF ?_
       refine Calls.mono (zaB h.stores h.ws hA hD) ?_
       rintro e _ ⟨rfl,rfl⟩
       refine biE (fun h26=>?_) fun h26=>?_
       ·have h26:hasM s a d=true:=h26
        refine Calls.mono (zbl h ha) ?_
        rintro e _ ⟨rfl,rfl⟩
        refine biE (fun h27=>?_) fun h27=>?_
        ·have h27:isW x a=true:=h27
         refine Calls.mono (zbl h hd) ?_
         rintro e _ ⟨rfl,rfl⟩
         exact⟨rb (by show _=(hasM x.dt a d||((hasM x.ct a d&&isW x d)||(hasM x.rm a d||(hasM f a d||((hasM l a d&&(isR x a&&isR x d))||(hasM s a d&&(isW x a&&isW x d)))))));rw [h1,h2,h18,h19,h20,h21,h26,h27];rfl),hbw⟩
        ·have h27:isW x a=false:=h27
         exact⟨rb (by show _=(hasM x.dt a d||((hasM x.ct a d&&isW x d)||(hasM x.rm a d||(hasM f a d||((hasM l a d&&(isR x a&&isR x d))||(hasM s a d&&(isW x a&&isW x d)))))));rw [h1,h2,h18,h19,h20,h21,h26,h27];rfl),hbw⟩
       ·have h26:hasM s a d=false:=h26
        refine brF ?_
        exact⟨rb (by show _=(hasM x.dt a d||((hasM x.ct a d&&isW x d)||(hasM x.rm a d||(hasM f a d||((hasM l a d&&(isR x a&&isR x d))||(hasM s a d&&(isW x a&&isW x d)))))));rw [h1,h2,h18,h19,h20,h21,h26];rfl),hbw⟩
     ·have h20:hasM l a d=false:=h20
      refine brF ?_
      refine brF ?_
      refine Calls.mono (zaB h.stores h.ws hA hD) ?_
      rintro e _ ⟨rfl,rfl⟩
      refine biE (fun h29=>?_) fun h29=>?_
      ·have h29:hasM s a d=true:=h29
       refine Calls.mono (zbl h ha) ?_
       rintro e _ ⟨rfl,rfl⟩
       refine biE (fun h30=>?_) fun h30=>?_
       ·have h30:isW x a=true:=h30
        refine Calls.mono (zbl h hd) ?_
        rintro e _ ⟨rfl,rfl⟩
        exact⟨rb (by show _=(hasM x.dt a d||((hasM x.ct a d&&isW x d)||(hasM x.rm a d||(hasM f a d||((hasM l a d&&(isR x a&&isR x d))||(hasM s a d&&(isW x a&&isW x d)))))));rw [h1,h2,h18,h19,h20,h29,h30];rfl),hbw⟩
       ·have h30:isW x a=false:=h30
        exact⟨rb (by show _=(hasM x.dt a d||((hasM x.ct a d&&isW x d)||(hasM x.rm a d||(hasM f a d||((hasM l a d&&(isR x a&&isR x d))||(hasM s a d&&(isW x a&&isW x d)))))));rw [h1,h2,h18,h19,h20,h29,h30];rfl),hbw⟩
      ·have h29:hasM s a d=false:=h29
       refine brF ?_
       exact⟨rb (by show _=(hasM x.dt a d||((hasM x.ct a d&&isW x d)||(hasM x.rm a d||(hasM f a d||((hasM l a d&&(isR x a&&isR x d))||(hasM s a d&&(isW x a&&isW x d)))))));rw [h1,h2,h18,h19,h20,h29];rfl),hbw⟩
end
end Go.Proofs.YtmbghmhjjodgmaaGreatDoor
