/- Contracts of functions, and plain facts, for the law that the last text of this claim proves. -/
import Derived.Test.YtkpkdmipjinoaaaGreatDoorA7
import Derived.Test.YtkpkdmipjinoaaaGreatDoorA5
import Derived.Test.YtkpkdmipjinoaaaGreatDoorA6
import Derived.Lib.LastIndexByte
import Derived.Test.YtkpkdmipjinoaaaGreatDoorA2
import Derived.Test.YtkpkdmipjinoaaaGreatDoorRows
import Derived.ProofKit
import Derived.OpenShut
import Derived.LaidLaws
import Derived.Below
import Derived.HandedShaped
import Derived.KernelRfl
import Derived.WalkKit
import Derived.ChangeOld
import Derived.SevenTiedAt
import Derived.LaidHandle
import Derived.Stop.LaidErr
import Derived.Lib.LaidTab
import Derived.SizedLaws
set_option linter.unusedSimpArgs false
set_option linter.unusedVariables false
namespace Go.Proofs.YtkpkdmipjinoaaaGreatDoor
open Go.Vc Go.RowKit Go.Sei
section
variable {w:World} {bP cv B:Nat} {pc:List Value} {qv:Option Addr} {V:List UInt8} {p:Prg}
theorem zqf (fP:w.heap[bP]?=some (.cells pc.toArray 100 (0,0))) (hB:B<=w.heap.size) (hP:PrgX B w pc p) (hil:p.locs.length=p.init.length) (hi6:p.init.length<=6) (hG:GlobE w) (hV:SlR zaM w qv V) (hv1:1<=V.length) (hv12:V.length<=12) (hvs:srt8 V=true) (hd12:(ded V).length<=12)
  (ht4:p.threads.length<=4) (hT:∀ l∈p.threads,ThrQ V l) (hall:∀ k,k<=p.threads.length->zev ((p.threads.take k).map fun l=>(zaG V l).length)<=4096) (hpb:∀ l∈p.threads,∀ P∈zaG V l,PathB p.init.length P)
  (hsome:∀ ds∈zeo ((p.threads.map (zaG V)).map List.length),(mixR p.init (zey (p.threads.map (zaG V)) ds)).isSome=true) :
  Calls Tryz.prog 96 #[At0 bP,.slice qv V.length cv] w fun e w'=>(∃ (ms:List MixX) (q:Option Addr) (c:Nat),e = .returned (.tuple #[.slice q ms.length c,.bool true])/\ms.map (·.m)=zmQ p.init (p.threads.map (zaG V))/\OwnS mixE 178 w.heap.size w' q c ms/\∀ x∈ms,NInM w.heap.size (fun k=>w.heap.size<=k) w' x)/\Bw w w':=by
 refine cofM 89 [At0 bP,.slice qv V.length cv] (.c .p (.c .p (.s .p (.s .p (.c .p (.c .p (.s .p .p))))))) Tryz.func96 ?_;obtain⟨L,hL⟩:=nm (w.heap.size);have hbP:=hlt fP;refine⟨Unit,fun _=>⟨[(1,.slice qv V.length cv),(2,At0 L),(4,At0 (L+1)),(5,At0 (L+2))],[]⟩,fun _ X=>X.heap[L]?=some (.cells #[At0 bP] 175 (0,0))/\X.heap[L+1]?=some (.cells #[.slice none 0 0] 172 (0,0))/\X.heap[L+2]?=some (.cells #[.bool false] 4 (0,0))/\X.heap.size=L+3/\Bw w X,?_,?_⟩
 ·have s1:=wz w (.cells #[At0 bP] 175);have h2:=hnew (w.alloc (.cells #[At0 bP] 175)) (.cells #[.slice none 0 0] 172);have s2:=wz (w.alloc (.cells #[At0 bP] 175)) (.cells #[.slice none 0 0] 172);have h3:=hnew ((w.alloc (.cells #[At0 bP] 175)).alloc (.cells #[.slice none 0 0] 172)) (.cells #[.bool false] 4);have s3:=wz ((w.alloc (.cells #[At0 bP] 175)).alloc (.cells #[.slice none 0 0] 172)) (.cells #[.bool false] 4);rw [s1] at h2 s2;rw [s2] at h3 s3;refine⟨(),⟨.cons rfl (.cons (by rw [hL];rfl) (.cons (by rw [hL,<- s1];rfl) (.cons (by rw [hL,<- s2];rfl) .nil))),rfl⟩,?_,?_,?_,?_,?_⟩
  ·rw [hL];exact hold _ (hold _ (hnew w _))
  ·rw [hL];exact hold _ h2
  ·rw [hL];exact h3
  ·rw [hL];exact s3
  ·exact (((zba w _)).alloc (by simp) _).alloc (by simp;omega) _
 rintro _ X ⟨f0,f1,f2,sX,hbX⟩;refine⟨Unit,fun _=>⟨[(1,.slice qv V.length cv),(2,At0 L),(4,At0 (L+1)),(5,At0 (L+2)),(6,At0 (L+3))],[]⟩,fun _ Y=>MxS w.heap.size Y L bP [] none 0 [] none 0/\Bw w Y,?_,?_⟩
 ·refine⟨(),⟨.cons rfl (.cons rfl (.cons rfl (.cons rfl (.cons (by rw [<- sX];rfl) .nil)))),rfl⟩,⟨hold _ f0,hold _ f1,hold _ f2,by rw [<- sX];exact hnew X _,OwnS.nil,OwnS.nil,fun z hz=>(by cases hz),fun z hz=>(by cases hz)⟩,hbX.alloc hbX.size _⟩
 clear f0 f1 f2 sX hbX;rintro _ X ⟨hS,hbX⟩;have hP0:=hP;obtain⟨_,⟨p3,c3,h3,xs,hxs,hrow,hxr⟩,⟨p2,c2,h2,hinit⟩⟩:=hP;have hxl:xs.length=p.threads.length:=by rw [<- hxs,List.length_map]
 refine⟨(List TpR×Option Addr×Nat)×Option Addr×Nat,fun s=>⟨[(2,At0 L),(4,At0 (L+1)),(5,At0 (L+2)),(6,At0 (L+3)),(7,.slice s.2.1 (p.threads.map fun l=>(zaG V l).length).length s.2.2)],[]⟩,fun s Z=>MxS w.heap.size Z L bP (p.threads.map fun l=>(zaG V l).length) s.2.1 s.2.2 s.1.1 s.1.2.1 s.1.2.2/\s.1.1.map (fun z=>z.1.map (·.1))=p.threads.map (zaG V)/\Bw w Z,?_,?_⟩
 ·refine⟨_,zac (zaa hS.f0) (i:=0) rfl,?_⟩;refine⟨_,zac (zaa (zab hbX fP)) (i:=3) (by simpa using h3),?_⟩;refine⟨Nat×(List TpR×Option Addr×Nat)×Option Addr×Nat,fun s=>⟨[(1,.slice qv V.length cv),(2,At0 L),(4,At0 (L+1)),(5,At0 (L+2)),(6,At0 (L+3)),(7,.slice s.2.2.1 ((p.threads.take s.1).map fun l=>(zaG V l).length).length s.2.2.2),(8,i64 (zev ((p.threads.take s.1).map fun l=>(zaG V l).length):Nat)),(23,.slice p3 p.threads.length c3),(24,i64 p.threads.length),(25,i64 (s.1:Nat))],[]⟩,
   fun s Z=>s.1<=p.threads.length/\MxS w.heap.size Z L bP ((p.threads.take s.1).map fun l=>(zaG V l).length) s.2.2.1 s.2.2.2 s.2.1.1 s.2.1.2.1 s.2.1.2.2/\s.2.1.1.map (fun z=>z.1.map (·.1))=(p.threads.take s.1).map (zaG V)/\Bw w Z,fun s=>p.threads.length-s.1,(0,([],none,0),none,0),
   (cvE rfl rfl),⟨Nat.zero_le _,hS,rfl,hbX⟩,?_⟩
  clear hS hbX;rintro⟨k,⟨ts,pT,cT⟩,ps,cs⟩ Z ⟨hk,hS,hz,hbZ⟩;dsimp only at hk hS hz ⊢;have hts:ts.length=k:=by
   have:=congrArg List.length hz;rw [List.length_map,List.length_map,List.length_take] at this;omega
  refine biE (fun hc=>?_) fun hc=>?_
  ·have hc:(k:Int)<(p.threads.length:Int):=dT hc;have hkl:k<p.threads.length:=by omega
   have hkx:k<xs.length:=by omega
   have hZs:=hbZ.size;obtain⟨l,hlk⟩:∃ l,p.threads[k]=l:=⟨_,rfl⟩;have hlm:l∈p.threads:=by rw [<- hlk];exact gM hkl
   have hQ:=hT l hlm;obtain⟨b3,o3,hp3,hb3,hat3⟩:=zmf (hrow.below (hbZ.mono hB)) hkx;have hB2:b3<Z.heap.size:=by omega
   have e3:some (Value.slice p3 p.threads.length c3)=some (Value.slice (some ⟨b3,o3,none⟩) p.threads.length c3):=by rw [hp3]
   subst hp3;refine⟨k,rfl,hkl,?_⟩;refine⟨thrV xs[k],by have:=zac (hat3 k hkx) (i:=0) (v:=thrV xs[k]) rfl;exact this,?_⟩;obtain⟨hrm,hrb⟩:=hxr _ (gM hkx);have hxm:xs[k].1=l:=by
    have:=congrArg (fun l=>l[k]?) hxs;simp only [List.getElem?_map,gE hkx,gE hkl,Option.map_some,Option.some.injEq] at this;rw [this,hlk]
   have hpt:(p.threads.take (k+1))=p.threads.take k++[l]:=by rw [tsg hkl,hlk]
   refine cmo (zrh (l:=xs[k].1) (vals:=V) ((hrm.below (hbZ.mono hB)).slr (by omega)) (hV.below hbZ) hv1 hv12 hvs (by rw [hxm];exact hQ.ex) (by rw [hxm];exact hQ.ok) (hG.below hbZ) (by rw [hxm];exact znf hQ.l12 hQ.ex) (by rw [hxm];exact hQ.m) (fun a ha=>by have:=hrb a ha;omega) hd12) ?_;rintro e Y ⟨⟨rk,pk,ck,rfl,hrk,ork,onk⟩,hbY⟩;rw [hxm] at hrk;have hrk:rk.map (·.1)=zaG V l:=hrk;have hrkl:rk.length=(zaG V l).length:=by rw [<- hrk,List.length_map]
   have hpl:(zaG V l).length<=4096:=by rw [List.length_map];exact hQ.m
   have hSY:=hS.below hbY;have hpr:=hall (k+1) hkl;have hpr0:=hall k (by omega);rw [hpt,List.map_append] at hpr;have hpr:zev ((p.threads.take k).map (fun l=>(zaG V l).length)++[(zaG V l).length])<=4096:=hpr;rw [zgE,<- hrkl] at hpr;obtain⟨A,hA⟩:=nm (zev ((p.threads.take k).map fun l=>(zaG V l).length));have hA2:zev ((p.threads.take (k+1)).map fun l=>(zaG V l).length)=A*rk.length:=by
    rw [hpt,List.map_append];show zev ((p.threads.take k).map (fun l=>(zaG V l).length)++[(zaG V l).length])=_;rw [zgE,<- hrkl,hA]
   rw [<- hA] at hpr hpr0 ⊢;obtain⟨nz,hnz⟩:∃ nz:TpR,nz=(rk,pk,ck):=⟨_,rfl⟩;have hen:[Value.slice pk rk.length ck]=tpE.enc nz:=by rw [hnz];rfl
   refine⟨((A*rk.length:Nat):Int),by rw [<- Int.natCast_mul];exact zai (by omega),?_⟩;refine brF ?_;refine brN (decide_eq_false (by omega)) ?_;refine⟨_,zac (zaa hSY.f3) (i:=0) rfl,?_⟩;refine⟨⟨by decide,by decide,rfl⟩,tpE.enc nz,by rw [<- hen];rfl,?_⟩;have hb1:Bw Y (Y.alloc (.cells (tpE.enc nz).toArray 251)):=zba _ _;have hS1:=hSY.below hb1;have ork1:=ork.below hb1;have onk1:=fun x hx=>(onk x hx).same (Z:=Y.alloc (.cells (tpE.enc nz).toArray 251)) fun {α E T c q l} _ ho=>ho.below hb1;unfold opsE zc6;show SatR _ _;refine appT hS1.rk (zbi tpE nz) (by have:=hb1.size;have:=hbY.size;omega) (by omega) fun p' c' U oU gU hat1=>?_;have f0U:=zaT hS1.f0 hS1.rk (by decide) gU;have f1U:=zaT hS1.f1 hS1.rk (by decide) gU;have f2U:=zaT hS1.f2 hS1.rk (by decide) gU;have f3U:=zaT hS1.f3 hS1.rk (by decide) gU;refine zaq k250 f3U (o:=0) (v := .slice p' (ts++[nz]).length c') rfl rfl (by show 0<1;decide) rfl fun S fS gS sS=>?_;have hbZY:=hbZ.trans (hbY.mono hZs);have sY:=hbY.size;have sb1:=hb1.size;have hbU:Bw w U:=(hbZY.trans (hb1.mono (by omega))).trans (zbh hS1.rk (by omega) (Nat.le_refl _) gU);have hbS:Bw w S:=hbU.trans (zak gS hbU.size (by omega));have hSS:MxS w.heap.size S L bP ((p.threads.take k).map fun l=>(zaG V l).length) ps cs (ts++[nz]) p' c':=by
    have kU:∀ {α:Type} {E:Enc α} {T cc:Nat} {r:Option Addr} {ll:List α},T≠251->T≠250->OwnS E T w.heap.size (Y.alloc (.cells (tpE.enc nz).toArray 251)) r cc ll->OwnS E T w.heap.size S r cc ll:=fun {α E T cc r ll} h1 h2 h=>zaV (zb3 h hS1.rk h1 gU) f3U h2 gS;have kB:∀ {b:Nat} {o:Obj},b≠L+3->U.heap[b]?=some o->S.heap[b]?=some o:=fun {b o} hb h=>(gS.block b (hlt h) (by simpa using hb)).trans h;have kP:∀ x:PthR,PthO w.heap.size (Y.alloc (.cells (tpE.enc nz).toArray 251)) x->PthO w.heap.size S x:=fun x hx=>hx.same fun {α E T c q l} ht ho=>kU (by rcases ht with rfl | rfl <;> decide) (by rcases ht with rfl | rfl <;> decide) ho;refine⟨kB (by omega) f0U,kB (by omega) f1U,kB (by omega) f2U,fS,kU (by decide) (by decide) hS1.own,zaV oU f3U (by decide) gS,fun z hz=>?_,fun z hz=>?_⟩
    ·rcases List.mem_append.1 hz with hz | hz
     ·exact kU (by decide) (by decide) (hS1.n1 z hz)
     ·rw [List.mem_singleton.1 hz,hnz];exact kU (by decide) (by decide) (ork1.lower hZs)
    ·rcases List.mem_append.1 hz with hz | hz
     ·exact fun x hx=>kP x (hS1.n2 z hz x hx)
     ·rw [List.mem_singleton.1 hz,hnz];exact fun x hx=>kP x ((onk1 x hx).mono hZs)
   clear hS1 ork1 onk1 hSY hS oU gU hat1 f0U f1U f2U f3U fS gS;refine⟨⟨by decide,by decide,rfl⟩,natE.enc rk.length,rfl,?_⟩;have hb2:Bw S (S.alloc (.cells (natE.enc rk.length).toArray 3)):=zba _ _;have hS2:=hSS.below hb2;have sbS:=hbS.size;have sb2:=hb2.size;unfold opsE zc6;show SatR _ _;refine appI hS2.own (zbi natE rk.length) (by omega) (by rw [List.length_map,List.length_take];omega) fun p2' c2' V' oV gV hat2=>?_;rw [zcE] at gV;have hSV:=hS2.size oV gV;have hzz:((p.threads.take k).map fun l=>(zaG V l).length)++[rk.length]=(p.threads.take (k+1)).map fun l=>(zaG V l).length:=by
    rw [hpt,List.map_append,hrkl];rfl
   rw [hzz] at hSV ⊢;refine nxI (by omega) ?_;refine⟨(k+1,(ts++[nz],p',c'),p2',c2'),⟨.cons rfl (.cons rfl (.cons rfl (.cons rfl (.cons rfl (.cons rfl (.cons (by show _=some (i64 (zev ((p.threads.take (k+1)).map fun l=>(zaG V l).length):Nat));rw [hA2];rfl) (.cons rfl (.cons rfl (.cons rfl .nil))))))))),rfl⟩,⟨hkl,hSV,?_,hbS.trans ((hb2.mono sbS).trans (zbh hS2.own (by omega) (Nat.le_refl _) gV))⟩,zdc (by omega)⟩;rw [hpt,List.map_append,List.map_append,hz,hnz];show _++[rk.map (·.1)]=_++[zaG V l];rw [hrk]
  ·have hc:¬ (k:Int)<(p.threads.length:Int):=dF hc;obtain rfl:k=p.threads.length:=by omega
   rw [List.take_length] at hz hS ⊢;exact⟨((ts,pT,cT),ps,cs),(cvE rfl rfl),hS,hz,hbZ⟩
 rintro⟨⟨ts,pT,cT⟩,ps,cs⟩ X ⟨hS,hz,hbX⟩;dsimp only at hS hz ⊢;obtain⟨Q,hQ⟩:=nm (X.heap.size);refine⟨Unit,fun _=>⟨[(2,At0 L),(4,At0 (L+1)),(5,At0 (L+2)),(6,At0 (L+3)),(7,.slice ps (p.threads.map fun l=>(zaG V l).length).length cs),(13,At0 Q)],[]⟩,fun _ Z=>MxS w.heap.size Z L bP (p.threads.map fun l=>(zaG V l).length) ps cs ts pT cT/\Z.heap[Q]?=some (.cells #[.slice none 0 0] 172 (0,0))/\Z.heap.size=Q+1/\Bw w Z,?_,?_⟩
 ·refine⟨(),⟨.cons rfl (.cons rfl (.cons rfl (.cons rfl (.cons rfl (.cons (by rw [hQ];rfl) .nil))))),rfl⟩,hS.below ((zba X _)),by rw [hQ];exact hnew X _,by rw [hQ];exact wz _ _,hbX.alloc hbX.size _⟩
 have hQw:w.heap.size+4<=Q:=by have:=hlt hS.f3;omega
 clear hS hbX hQ;clear X;rintro _ X ⟨hS,fQ,sX,hbX⟩;obtain⟨Ts,hTs⟩:=nm (p.threads.map (zaG V));have hTl:Ts.length=p.threads.length:=by rw [hTs,List.length_map]
 have htl:ts.length=p.threads.length:=by have:=congrArg List.length hz;simpa using this
 have hsz:(p.threads.map fun l=>(zaG V l).length)=Ts.map List.length:=by rw [hTs,List.map_map];rfl
 rw [hsz] at hS ⊢;rw [<- hTs] at hsome hz ⊢;have hsl1:(Ts.map List.length).length<=1000:=by rw [List.length_map];omega
 have hsl2:∀ n∈Ts.map List.length,n<=1000000:=fun n hn=>by
  rw [hTs,List.map_map] at hn;obtain⟨l,hl,rfl⟩:=List.mem_map.1 hn;have:=(hT l hl).m;show ((zcL l (ded V)).map zeY).length<=_;rw [List.length_map];omega
 have hmemT:∀ z∈ts,∀ x∈z.1,PathB p.init.length x.1:=fun z hz' x hx=>by
  have h1:z.1.map (·.1)∈Ts:=by rw [<- hz];exact List.mem_map.2 ⟨z,hz',rfl⟩
  rw [hTs] at h1;obtain⟨l,hl,he⟩:=List.mem_map.1 h1;exact hpb l hl x.1 (by rw [he];exact List.mem_map.2 ⟨x,hx,rfl⟩)
 refine cmo zph ?_;rintro e V1 ⟨rfl,fo,sV1,hbV1⟩;have hI:=zrP fo (hS.own.row.below hbV1) (fun a ha=>by have:=(zau hS.own ha).2.1;omega) hsl1 hsl2;have hS1:=hS.below hbV1;have hb1:Bw w V1:=zst hbX hbV1;have hG0:Gath mixE 178 172 Q V1.heap.size Q V1 (NInM w.heap.size) [] (fun k=>k=Q) V1 :=
  ⟨Nat.le_refl _,rfl,fun k hk=>by omega,⟨none,0,zab hbV1 fQ,OwnS.nil,fun a h=>by cases h⟩,fun x hx=>(by cases hx),Below.refl _ _⟩
 obtain⟨f,hf⟩:∃ f:List Nat->Option MixD,f=fun ds=>mixR p.init (zey Ts ds):=⟨_,rfl⟩;have hmix:zmQ p.init Ts=(zeo (Ts.map List.length)).filterMap f:=by rw [hf];rfl
 refine zfd (sgOk _) rfl (lb := #[At0 X.heap.size]) rfl rfl hI (Nat.le_refl _) (fun k hk=>⟨?_,rfl⟩) (fun pre vs W ⟨l,q,_,h,_⟩=>by rw [h];rfl) (by decide)
  (fun k=>k=Q) (fun pre F Y=>∃ ms,(ms.map (·.m)=pre.filterMap f/\ms.length<=pre.length)/\Gath mixE 178 172 Q V1.heap.size Q V1 (NInM w.heap.size) ms F Y) (fun _ _ _ _=>False) (fun k hk=>?_) (Gath.iter (ziA _) (by omega)) (fun ex=>⟨fun _ _ _ _ h=>h.elim,fun _ _ _ _ h=>h.elim⟩) ⟨[],⟨rfl,Nat.zero_le _⟩,hG0⟩ ?_ ?_ ?_
 ·rcases hk with (rfl | ⟨a,ha,rfl⟩) | h
  ·omega
  ·have:=(zau hS.own ha).2.1;omega
  ·exact h.elim
 ·rcases hk with rfl | ⟨a,ha,rfl⟩
  ·omega
  ·obtain⟨_,_,cur,hc⟩:=zau hS.own ha;intro e;rw [e,fQ] at hc;simp at hc
 ·rintro yl pre ds vs F Y hyl hpre hJ0 ⟨l,qd,hlast,rfl,hsl,hcel⟩ hfy ⟨lo,hlo⟩;have hdx:ds=l:=by simpa using hlast
  subst hdx;refine⟨rfl,F,KeepsG.refl _ _,hJ0,?_⟩;rintro O Y2 hY2 ⟨ms,⟨hms,hml⟩,hG2⟩;have hslY:SlR natE Y2 qd ds:=by
   rw [hY2];refine zbf hsl fun a ha=>zah fun e=>?_;obtain⟨cur,hcur⟩:=hcel a ha;rw [e,hlo] at hcur
   cases hcur
  obtain⟨hdl,hdlt⟩:=znk (hpre.subset (List.mem_append_right _ (List.mem_singleton.2 rfl)));have hsome1:=hsome ds (hpre.subset (List.mem_append_right _ (List.mem_singleton.2 rfl)));rw [List.length_map] at hdl;have hY2s:=hG2.size;have old:∀ {k:Nat} {ob:Obj},k<Q->V1.heap[k]?=some ob->Y2.heap[k]?=some ob:=fun {k ob} hk h=>(hG2.old.block k hk).trans h;have g0:=old (by omega) hS1.f0;have g3:=old (by omega) hS1.f3;have kR:∀ {α:Type} {E:Enc α} {T cc:Nat} {r:Option Addr} {ll:List α},T≠172->OwnS E T w.heap.size X r cc ll->OwnS E T w.heap.size Y2 r cc ll:=fun {α E T cc r ll} hT h=>h.same fun a ha=>by
   have hq:a.block≠Q:=fun e=>by
    obtain⟨_,_,cur,hc⟩:=zau h ha;rw [e,fQ] at hc;simp at hc;exact hT hc.2.symm
   have:=(zau h ha).2.1;exact (hG2.old.block _ (by omega)).trans (hbV1.block _ this)
  have rkY:=kR (by decide) hS.rk;have n1Y:=fun z hz=>kR (by decide) (hS.n1 z hz);have n2Y:∀ z∈ts,∀ x∈z.1,PthO w.heap.size Y2 x:=fun z hz x hx=>(hS.n2 z hz x hx).same fun {α E T c q l} ht ho=>kR (by rcases ht with rfl | rfl <;> decide) ho;have fPY:Y2.heap[bP]?=some (.cells pc.toArray 100 (0,0)):=old (by omega) ((hb1.block bP hbP).trans fP);have hbwY:Bw w Y2:=hb1.trans (hG2.old.mono (by omega));refine⟨Nat×List PthR×Option Addr×Nat,fun s=>⟨[(2,At0 L),(6,At0 (L+3)),(13,At0 Q),(15,.slice s.2.2.1 s.2.1.length s.2.2.2),(58,.slice qd ds.length ds.length),(59,i64 ds.length),(60,i64 (s.1:Nat))],[]⟩,
   fun s Z=>s.1<=ds.length/\OwnS pthE 259 Y2.heap.size Z s.2.2.1 s.2.2.2 s.2.1/\s.2.1.map (·.1)=zey (Ts.take s.1) (ds.take s.1)/\s.2.1.length=s.1/\(∀ x∈s.2.1,∃ z∈ts,x∈z.1)/\Bw Y2 Z,fun s=>ds.length-s.1,(0,[],none,0),
   (cvE rfl rfl),⟨Nat.zero_le _,OwnS.nil,by simp [zey],rfl,fun x hx=>(by cases hx),Below.refl _ _⟩,?_⟩
  rintro⟨k,Cs,pC,cC⟩ Z ⟨hk,oC,hCs,hCl,hCm,hbZ⟩;dsimp only at hk oC hCs hCl hCm ⊢;have hZs:=hbZ.size;refine biE (fun hc=>?_) fun hc=>?_
  ·have hc:(k:Int)<(ds.length:Int):=dT hc;have hkl:k<ds.length:=by omega
   have hkt:k<ts.length:=by omega
   obtain⟨z,hzk⟩:∃ z,ts[k]=z:=⟨_,rfl⟩;have hzm:z∈ts:=by rw [<- hzk];exact gM hkt
   have hkT:k<Ts.length:=by omega
   have hzT:Ts[k]=z.1.map (·.1):=by
    have h1:Ts[k]?=some (z.1.map (·.1)):=(by rw [<- hz,List.getElem?_map,gE hkt,hzk];rfl);rw [gE hkT] at h1;exact Option.some.inj h1
   obtain⟨d,hd⟩:∃ d,ds[k]=d:=⟨_,rfl⟩;have hdz:d<z.1.length:=by
    have:=hdlt k (Ts[k].length) d (by rw [List.getElem?_map,gE hkT];rfl) (by rw [gE hkl,hd]);rw [hzT,List.length_map] at this;exact this
   obtain⟨x,hx⟩:∃ x,z.1[d]=x:=⟨_,rfl⟩;have hxm:x∈z.1:=by rw [<- hx];exact gM hdz
   have hpick:zey (Ts.take (k+1)) (ds.take (k+1))=zey (Ts.take k) (ds.take k)++[x.1]:=by
    rw [tsg hkT,tsg hkl,hd,hzT,zgG _ _ _ _ (by rw [List.length_take,List.length_take];omega),List.getElem?_map,gE hdz,hx];rfl
   obtain⟨bD,oD,hpD,hlD,hatD⟩:=(hslY.below hbZ).at hkl;obtain⟨bT,oT,hpT,hlT,hatT⟩:=(rkY.below hbZ).row.at hkt;obtain⟨bz,oz,hpz,hlz,hatz⟩:=((n1Y z hzm).below hbZ).row.at hdz;subst hpD;subst hpT;refine⟨k,rfl,hkl,?_⟩;refine⟨i64 d,by have:=zac (hatD k hkl) (i:=0) (v:=i64 d) (by rw [hd];rfl);exact this,?_⟩;refine⟨_,zac (zaa (zab hbZ g3)) (i:=0) rfl,?_⟩;refine⟨k,rfl,hkt,?_⟩;refine⟨.slice z.2.1 z.1.length z.2.2,by have:=zac (hatT k hkt) (i:=0) (v := .slice z.2.1 z.1.length z.2.2) (by rw [hzk];rfl);exact this,?_⟩;rw [hpz];refine⟨d,rfl,hdz,?_⟩;refine⟨pthE.enc x,pthE.len x,by rw [<- hx];exact hatz d hdz,hlz,?_⟩;refine⟨⟨by decide,by decide,rfl⟩,pthE.enc x,zcV (pthE.len x) rfl,?_⟩;have hb2:Bw Z (Z.alloc (.cells (pthE.enc x).toArray 259)):=zba _ _;have sb2:=hb2.size;unfold opsE zc6;show SatR _ _;refine appP (oC.below hb2) (zbi pthE x) (by omega) (by omega) fun p' c' U oU gU hat1=>?_;refine nxI (by omega) ?_;refine⟨(k+1,Cs++[x],p',c'),(cvE rfl rfl),⟨hkl,oU,by rw [List.map_append,hCs,hpick];rfl,by rw [lap,hCl];rfl,fun y hy=>?_,hbZ.trans ((hb2.mono hZs).trans (zbh (oC.below hb2) (by omega) (Nat.le_refl _) gU))⟩,zdc (by omega)⟩;rcases List.mem_append.1 hy with hy | hy
   ·exact hCm y hy
   ·rw [List.mem_singleton.1 hy];exact⟨z,hzm,hxm⟩
  have hc:¬ (k:Int)<(ds.length:Int):=dF hc;obtain rfl:k=ds.length:=by omega
  rw [List.take_length,List.take_of_length_le (by omega)] at hCs;obtain⟨q1,k1,q2,k2,q3,k3,q4,k4,hvs,_⟩:=hP0.v.h;have hpc1:pc[1]?=some (.slice q1 p.init.length k1):=by rw [hvs,<- hil];rfl
  have hZw:w.heap.size<=Z.heap.size:=by have:=hbwY.size;omega
  refine⟨_,zac (zaa (zab hbZ g0)) (i:=0) rfl,?_⟩;obtain⟨mx,hmx⟩:∃ mx,mixR p.init (Cs.map (·.1))=some mx:=by
   rw [hCs];exact Option.isSome_iff_exists.1 hsome1
  have hfd:f ds=some mx:=by rw [hf,<- hmx,hCs]
  refine cmo (zlv (zab hbZ fPY) hpc1 h2 ((hinit.below (((zst hbwY hbZ)).mono hB)).slr (by omega)) hi6 oC.row (fun x hx=>?_) (fun x hx=>?_) (by omega)) ?_
  ·obtain⟨z,hz1,hx1⟩:=hCm x hx;obtain⟨o1,o2,o3,o4⟩:=n2Y z hz1 x hx1;refine⟨fun a ha=>?_,(o1.below hbZ).row,(o2.below hbZ).row,(o3.below hbZ).row,(o4.below hbZ).row⟩;rcases ha with ha | ha | ha
   ·exact (zau (o2.below hbZ) ha).2.1
   ·exact (zau (o3.below hbZ) ha).2.1
   ·exact (zau (o4.below hbZ) ha).2.1
  ·obtain⟨z,hz1,hx1⟩:=hCm x hx;exact hmemT z hz1 x hx1
  rintro e U ⟨⟨vs,hres⟩,hbU⟩;rw [hmx] at hres;obtain⟨rfl,x1,x2,x3,x4,y1,y2,y3,y4,xs',ys',hvs',m1,m2,m3,m4,m5,m6,m7,m8⟩:=hres;obtain⟨nx,hnx⟩:∃ nx:MixX,nx=⟨mx,x1,y1,x2,y2,x3,y3,x4,y4,xs',ys'⟩:=⟨_,rfl⟩;have hen:vs=mixE.enc nx:=by rw [hvs',hnx];rfl
  have hvl:vs.length=336:=by rw [hen];exact mixE.len nx
  have hv1:vs.all Value.oneCell'=true:=by rw [hen];exact zkm nx
  have hUs:=hbU.size;refine zal (X:=U) (v := .agg vs.toArray) k178 hvl zbW hv1 fun V' hbV fV sV=>?_;have fV:V'.heap[U.heap.size]?=some (.cells vs.toArray 178 (0,0)):=fV;refine brF ?_;have hbY2V:Bw Y2 V':=(hbZ.trans (hbU.mono hZs)).trans (hbV.mono (by omega));obtain⟨pr,cr,h4,h5,h6⟩:=hG2.row;refine⟨_,zac (zaa (zab hbY2V h4)) (i:=0) rfl,?_⟩;refine⟨vs,hvl,zaa fV,hlt fV,?_⟩;refine⟨⟨by decide,by decide,zbW⟩,mixE.enc nx,by rw [<- hen];exact zcV hvl zbW,?_⟩;have hpl:pre.length<1000000000:=by
   obtain⟨t,ht⟩:=hpre;have h7:(pre++[ds]++t).length=zbd (Ts.map List.length).reverse:=by
    rw [ht];unfold zeo;rw [List.length_map,List.length_range]
   have h8:zbd (Ts.map List.length).reverse<=4096:=by
    have h9:=hall p.threads.length (Nat.le_refl _);rw [List.take_length,hsz] at h9;rw [zmq];exact h9
   simp only [lap,List.length_cons] at h7;omega
  have hnw:∀ (G:Nat->Prop) (S:World),(∀ k,Y2.heap.size<=k->k<V'.heap.size->S.heap[k]?=V'.heap[k]?)->(∀ k,Y2.heap.size<=k->k<V'.heap.size->G k)->NInM w.heap.size G S nx:=by
   intro G S hs hg;have kp:∀ {α:Type} {E:Enc α} {T cc:Nat} {r:Option Addr} {ll:List α},OwnS E T Z.heap.size U r cc ll->RowIn E T w.heap.size G S r cc ll:=fun {α E T cc r ll} h=>by
    have ol:∀ a,r=some a->Y2.heap.size<=a.block/\a.block<V'.heap.size:=fun a ha=>⟨by have:=(zau h ha).1;omega,by have:=(zau h ha).2.1;omega⟩;exact⟨OwnS.lower ((h.below hbV).same fun a ha=>hs _ (ol a ha).1 (ol a ha).2) hZw,fun a ha=>hg _ (ol a ha).1 (ol a ha).2⟩
   rw [hnx];exact⟨m3,m6,kp m1,kp m2,kp m4,fun y hy=>kp (m5 y hy),kp m7,fun y hy=>kp (m8 y hy)⟩
  obtain⟨v,Y5,hrun,S,hrun2,F',hG',hK',hFF'⟩:=hG2.step (P:=Tryz.prog) (ty:=172) (cap1:=1) (ziA _) (by decide) Tryz.underlying172 k178 rfl rfl (by show _=336;exact zbW) k172 rfl (by omega) (Nat.le_refl _) hbY2V nx (by omega) (by show (ms.length+1)*2488<=_;omega) hnw pr cr h4;unfold opsE zc6;refine SatR.mk hrun ?_;refine SatR.mk hrun2 ?_;refine⟨F',⟨_,⟨?_,by rw [lap,lap];show ms.length+1<=pre.length+1;omega⟩,hG'⟩,hK'⟩;rw [List.map_append,List.filterMap_append,hms];show _++[nx.m]=_++List.filterMap f [ds];rw [show List.filterMap f [ds]=[mx] by rw [List.filterMap_cons,hfd];rfl,hnx]
 ·rintro D F Y hD hfD ⟨ms,⟨hms,hml⟩,hG⟩ hdef;obtain⟨pr,cr,h4,h5,h6⟩:=hG.row;have hYs:=hG.size;have old:∀ {k:Nat} {ob:Obj},k<Q->V1.heap[k]?=some ob->Y.heap[k]?=some ob:=fun {k ob} hk h=>(hG.old.block k hk).trans h;have g1:=old (by omega) hS1.f1;have g2:=old (by omega) hS1.f2;refine⟨_,zac (zaa h4) (i:=0) rfl,?_⟩;refine zaq k172 g1 (o:=0) (v := .slice pr ms.length cr) rfl rfl (by show 0<1;decide) rfl fun Z1 fZ1 gZ1 sZ1=>?_;refine zaq k4 ((gZ1.block (L+2) (hlt g2) (by simp)).trans g2) (o:=0) (v := .bool true) rfl rfl (by show 0<1;decide) rfl fun Z2 fZ2 gZ2 sZ2=>?_;have k2:∀ k,k<Y.heap.size->k≠L+1->k≠L+2->Z2.heap[k]?=Y.heap[k]?:=fun k hk n1 n2=>(gZ2.block k (by rw [sZ1];exact hk) (by simpa using n2)).trans (gZ1.block k hk (by simpa using n1));refine⟨_,rfl,(k2 D (hlt hdef) (by omega) (by omega)).trans hdef,?_⟩;have f2':=(gZ2.block (L+1) (hlt fZ1) (by simp)).trans fZ1;have kp:∀ a:Addr,a.block≠L+1->a.block≠L+2->F a.block->a.block<Y.heap.size->(Z2.putObj D (.deferred none)).heap[a.block]?=Y.heap[a.block]?:=fun a n1 n2 h2 h3=>(zah fun e=>by rw [<- e] at hfD;exact hfD h2).trans (k2 _ h3 n1 n2);have hwY:=hb1.trans (hG.old.mono (by omega));have b2:=(hwY.trans (zak gZ1 hwY.size (by omega))).trans (zak gZ2 (by have:=hwY.size;omega) (by omega));have ne:∀ {α:Type} {E:Enc α} {T B' cc:Nat} {r:Option Addr} {ll:List α},T≠172->T≠4->OwnS E T B' Y r cc ll->∀ a,r=some a->a.block≠L+1/\a.block≠L+2:=fun {α E T B' cc r ll} t1 t2 h a ha=>by
   obtain⟨_,_,cur,hc⟩:=zau h ha;refine⟨fun e=>?_,fun e=>?_⟩
   ·rw [e,g1] at hc;simp at hc;exact t1 hc.2.symm
   ·rw [e,g2] at hc;simp at hc;exact t2 hc.2.symm
  refine⟨.slice pr ms.length cr,zac (zaa ((zah (by omega)).trans f2')) (i:=0) rfl,.bool true,zac (zaa ((zah (by omega)).trans fZ2)) (i:=0) rfl,⟨ms,pr,cr,rfl,by rw [hms,hmix],?_,fun x hx=>?_⟩,zbl b2 (by omega) _⟩
  ·exact OwnS.lower (h5.same fun a ha=>kp a (ne (by decide) (by decide) h5 a ha).1 (ne (by decide) (by decide) h5 a ha).2 (h6 a ha) (zau h5 ha).2.1) (by omega)
  ·exact (hG.nest x hx).same fun {α E T c q l} t1 t2 t3 hr=>⟨hr.own.same fun a ha=>kp a (ne t2 t3 hr.own a ha).1 (ne t2 t3 hr.own a ha).2 (hr.inF a ha) (zau hr.own ha).2.1,fun a ha=>(zau hr.own ha).1⟩
 ·rintro D ex pre F Y hD hfD hpre h;exact h.elim
end
abbrev zbO (p:Prg) (V:List UInt8):List MixD:=zmQ p.init (p.threads.map (zaG V))
def zcm (m:MixD):List ExD:=if cntR m 1=0 then [] else zgZ m
abbrev zec (p:Prg) (V:List UInt8):List ExD:=(zbO p V).flatMap zcm
structure CandQ (p:Prg) (n:Nat) (V:List UInt8) (most:Nat):Prop where
 ok:zjg p=true
 il:p.locs.length=p.init.length
 i1:1<=p.init.length
 i6:p.init.length<=6
 is:srt8 p.init=true
 vals:zkP p.threads n (ded p.init)=some V
 v1:1<=V.length
 v12:V.length<=12
 vs:srt8 V=true
 d12:(ded V).length<=12
 t4:p.threads.length<=4
 th:∀ l∈p.threads,ThrQ V l
 all:∀ k,k<=p.threads.length->zev ((p.threads.take k).map fun l=>(zaG V l).length)<=4096
 pb:∀ l∈p.threads,∀ P∈zaG V l,PathB p.init.length P
 some:∀ ds∈zeo ((p.threads.map (zaG V)).map List.length),(mixR p.init (zey (p.threads.map (zaG V)) ds)).isSome=true
 ml:(zbO p V).length<=5000
 mb:∀ m∈zbO p V,MixB m
 m20:most<=20000
 cnt:((zbO p V).map fun m=>cntR m 20001).sum<=most
 len:(zec p V).length<=30000
theorem zn5 {l:List Nat} (k:Nat):(l.take k).sum<=l.sum:=by
 have:l.sum=(l.take k).sum+(l.drop k).sum:=by rw [<- List.sum_append,List.take_append_drop]
 omega
theorem zq1 {m:MixD} {xs ys:List NatL} {lim:Nat} (h1:xs.map (·.1)=m.rs.map (·.2)) (h2:ys.map (·.1)=m.wr):cntF lim (xs.map (·.1)) (ys.map (·.1))=cntR m lim:=by
 rw [h1,h2];rfl
section
variable {w:World} {B n most:Nat} {pc:List Value} {p:Prg} {V:List UInt8}
theorem zro (hB:B<=w.heap.size) (hP:PrgX B w pc p) (hG:GlobE w) (hQ:CandQ p n V most) :
  Calls Tryz.prog 42 #[.agg pc.toArray,i64 most] w fun e w'=>(∃ (xs:List exE3) (q:Option Addr) (c:Nat),e = .returned (.tuple #[.slice q xs.length c,i64 0])/\xs.map (·.1)=zec p V/\OwnS exE 47 w.heap.size w' q c xs/\∀ x∈xs,OwnS evE 208 w.heap.size w' x.2.1 x.2.2 x.1.ev)/\Bw w w':=by
 refine cofM 74 [.agg pc.toArray,i64 most] (.c .p (.s .p (.s .p (.s .p (.c .p (.s .p (.s .p (.c .p (.c .p (.c .p .p)))))))))) Tryz.func42 ?_;obtain⟨L,hL⟩:=nm (w.heap.size);have hpc:=hP.v.size;have hm20:=hQ.m20;refine⟨Unit,fun _=>⟨[(1,i64 most),(2,At0 L)],[]⟩,fun _ X=>X.heap[L]?=some (.cells pc.toArray 100 (0,0))/\L<X.heap.size/\Bw w X,⟨(),⟨.cons rfl (.cons (by rw [hL];rfl) .nil),rfl⟩,by rw [hL];exact hnew w _,by rw [hL];exact hlt (hnew w _),(zba w _)⟩,?_⟩;rintro _ X ⟨f0,sX,hbX⟩;refine brN (decide_eq_false (by omega)) ?_;refine brN (decide_eq_false (by omega)) ?_;refine⟨pc,hpc,zaa f0,hlt f0,?_⟩;refine cmo (znN (Nat.le_trans hB hbX.size) (hP.v.below (hbX.mono hB)) (hG.c.below hbX)) ?_;rintro e Y ⟨m,rfl,hm,hbY⟩;have hm0:m=0:=hm.2 hQ.ok;subst hm0;refine brF ?_;have hwY:=zst hbX hbY;have f0:=zab hbY f0;refine⟨pc,hpc,zaa f0,hlt f0,?_⟩;refine cmo (zo5 (Nat.le_trans hB hwY.size) (hP.below (hwY.mono hB)) (hG.below hwY) hQ.ok (fun l hl=>(hQ.th l hl).ex) (fun l hl=>(hQ.th l hl).l12) hQ.i1 (by have:=hQ.i6;omega) hQ.is hQ.vals) ?_;rintro e Z ⟨⟨qv,cv,rfl,oV⟩,hbZ⟩;refine brF ?_;have hwZ:=zst hwY hbZ;have f0:=zab hbZ f0;clear hbX hbY hwY;obtain⟨V0,hV0⟩:=nm (V);refine⟨List MixX×Option Addr×Nat,fun s=>⟨[(1,i64 most),(8,.slice s.2.1 s.1.length s.2.2),(9,.bool true)],[]⟩,fun s U=>s.1.map (·.m)=zbO p V/\OwnS mixE 178 w.heap.size U s.2.1 s.2.2 s.1/\(∀ x∈s.1,NInM w.heap.size (fun k=>w.heap.size<=k) U x)/\Bw w U,?_,?_⟩
 ·refine cmo (zqf f0 (Nat.le_trans hB hwZ.size) (hP.below (hwZ.mono hB)) hQ.il hQ.i6 (hG.below hwZ) oV.row hQ.v1 hQ.v12 hQ.vs hQ.d12 hQ.t4 hQ.th hQ.all hQ.pb hQ.some) ?_;rintro e U ⟨⟨ms,q,c,rfl,hms,oM,nM⟩,hbU⟩;exact⟨(ms,q,c),(cvE rfl rfl),hms,oM.lower hwZ.size,fun x hx=>(nM x hx).lower hwZ.size,(zst hwZ hbU)⟩
 clear oV hbZ hwZ f0;rintro⟨ms,q,c⟩ X ⟨hms,oM,nM,hbX⟩;dsimp only at hms oM nM ⊢;refine brF ?_;have hml:ms.length<=5000:=by have:=hQ.ml;rw [<- hms,List.length_map] at this;exact this
 have hmb:∀ x∈ms,MixB x.m:=fun x hx=>hQ.mb x.m (by rw [<- hms];exact List.mem_map.2 ⟨x,hx,rfl⟩);have hsum:(ms.map fun x=>cntR x.m 20001).sum<=most:=by
  have:=hQ.cnt;rw [<- hms,List.map_map] at this;exact this
 have htake:∀ k,((ms.take k).map fun x=>cntR x.m 20001).sum<=most:=fun k=>by
  have:=zn5 (l:=ms.map fun x=>cntR x.m 20001) k;rw [<- List.map_take] at this;omega
 obtain⟨tot,htot⟩:=nm ((ms.map fun x=>cntR x.m 20001).sum);have cnt:∀ {Z:World} {k lim:Nat} (hk:k<ms.length),OwnS mixE 178 w.heap.size Z q c ms->(∀ x∈ms,NInM w.heap.size (fun k=>w.heap.size<=k) Z x)->1<=lim->lim<=100000->∃ b o,q=some ⟨b,o,none⟩/\Calls Tryz.prog 97 #[.pointer (some ⟨b,o+k*336,none⟩),i64 lim] Z fun e w'=>e = .returned (i64 (cntR ms[k].m lim:Nat))/\Z=w':=fun {Z k lim} hk oM nM h1 h2=>by
  obtain⟨b,o,hq,hb,hat⟩:=oM.row.at hk;have hx:=nM ms[k] (gM hk);have hb1:=hmb ms[k] (gM hk);have hxl:ms[k].xs.length=ms[k].m.rs.length:=by have:=congrArg List.length hx.e2;simpa using this
  have hyl:ms[k].ys.length=ms[k].m.wr.length:=by have:=congrArg List.length hx.e3;simpa using this
  refine⟨b,o,hq,?_⟩;have:=zqS (lim:=lim) (r := .slice ms[k].p1 ms[k].m.rs.length ms[k].c1) (hat k hk) hx.r2.own.row hx.r3.own.row (fun y hy=>?_) (fun y hy=>?_) (by have:=hb1.rl;omega) (by have:=hb1.wl;omega) h1 h2
  ·rw [zq1 hx.e2 hx.e3] at this;exact this
  ·have h3:y.1∈ms[k].m.rs.map (·.2):=by rw [<- hx.e2];exact List.mem_map.2 ⟨y,hy,rfl⟩
   obtain⟨r,hr,he⟩:=List.mem_map.1 h3;rw [<- he];exact (hb1.rs r hr).2.1
  ·have h3:y.1∈ms[k].m.wr:=by rw [<- hx.e3];exact List.mem_map.2 ⟨y,hy,rfl⟩
   have:=(hb1.wr _ h3).1;omega
 refine⟨Unit,fun _=>⟨[(8,.slice q ms.length c),(10,i64 tot)],[]⟩,fun _ Z=>X=Z,?_,?_⟩
 ·refine⟨Nat,fun k=>⟨[(1,i64 most),(8,.slice q ms.length c),(10,i64 (((ms.take k).map fun x=>cntR x.m 20001).sum:Nat)),(40,i64 ms.length),(41,i64 (k:Nat))],[]⟩,
   fun k Z=>k<=ms.length/\X=Z,fun k=>ms.length-k,0,(cvE rfl rfl),⟨Nat.zero_le _,rfl⟩,?_⟩
  rintro k _ ⟨hk,rfl⟩;dsimp only;refine biE (fun hc=>?_) fun hc=>?_
  ·have hc:(k:Int)<(ms.length:Int):=dT hc;have hkl:k<ms.length:=by omega
   obtain⟨b,o,hq,hcall⟩:=cnt (lim:=20001) hkl oM nM (by decide) (by decide);have htk:((ms.take (k+1)).map fun x=>cntR x.m 20001).sum=((ms.take k).map fun x=>cntR x.m 20001).sum+cntR ms[k].m 20001:=by
    rw [tsg hkl,List.map_append,List.sum_append];show _+(cntR ms[k].m 20001+0)=_;rw [Nat.add_zero]
   have h1:=htake (k+1);subst hq;refine⟨k,rfl,hkl,?_⟩;refine cmo hcall ?_;rintro e _ ⟨rfl,rfl⟩;refine⟨((((ms.take (k+1)).map fun x=>cntR x.m 20001).sum:Nat):Int),?_,?_⟩
   ·rw [htk,Int.natCast_add];exact zai (by omega)
   refine brN (decide_eq_false (by omega)) ?_;refine nxI (by omega) ?_;exact⟨k+1,(cvE rfl rfl),⟨hkl,rfl⟩,zdc (by omega)⟩
  ·have hc:¬ (k:Int)<(ms.length:Int):=dF hc;obtain rfl:k=ms.length:=by omega
   rw [List.take_length,<- htot];exact⟨(),(cvE rfl rfl),rfl⟩
 rintro _ _ rfl;have hXs:=hbX.size;refine⟨Option Addr×Nat,fun s=>⟨[(8,.slice q ms.length c),(12,.slice s.1 0 s.2)],[]⟩,fun s Z=>OwnS exE 47 X.heap.size Z s.1 s.2 []/\Bw X Z,?_,?_⟩
 ·refine zeC (E:=exE) Tryz.underlying86 k47 rfl (by show _=333;exact zc9) rfl tot (by show 2416*tot<=_;omega) (by unfold maxLen;omega) fun Z oZ hbZ sZ=>?_;exact⟨(some ⟨X.heap.size,0,none⟩,tot),(cvE rfl rfl),oZ,hbZ⟩
 rintro⟨p0,c0⟩ Y ⟨oY,hbY⟩;dsimp only at oY ⊢;refine⟨List exE3×Option Addr×Nat,fun s=>⟨[(12,.slice s.2.1 s.1.length s.2.2)],[]⟩,fun s Z=>s.1.map (·.1)=zec p V/\OwnS exE 47 X.heap.size Z s.2.1 s.2.2 s.1/\(∀ x∈s.1,OwnS evE 208 X.heap.size Z x.2.1 x.2.2 x.1.ev)/\Bw X Z,?_,?_⟩
 ·refine⟨Nat×List exE3×Option Addr×Nat,fun s=>⟨[(8,.slice q ms.length c),(12,.slice s.2.2.1 s.2.1.length s.2.2.2),(57,i64 ms.length),(58,i64 (s.1:Nat))],[]⟩,
   fun s Z=>s.1<=ms.length/\s.2.1.map (·.1)=(ms.take s.1).flatMap (fun x=>zcm x.m)/\OwnS exE 47 X.heap.size Z s.2.2.1 s.2.2.2 s.2.1/\(∀ x∈s.2.1,OwnS evE 208 X.heap.size Z x.2.1 x.2.2 x.1.ev)/\Bw X Z,fun s=>ms.length-s.1,(0,[],p0,c0),
   (cvE rfl rfl),⟨Nat.zero_le _,rfl,oY,fun x hx=>(by cases hx),hbY⟩,?_⟩
  clear oY hbY;rintro⟨k,outs,po,co⟩ Z ⟨hk,hou,oZ,nZ,hbZ⟩;dsimp only at hk hou oZ nZ ⊢;have hZs:=hbZ.size;have oMZ:OwnS mixE 178 w.heap.size Z q c ms:=oM.same fun a ha=>hbZ.block _ (zau oM ha).2.1;have nMZ:∀ x∈ms,NInM w.heap.size (fun k=>w.heap.size<=k) Z x:=fun x hx=>(nM x hx).same fun {α E T c q l} _ _ _ hr=>⟨hr.own.same fun a ha=>hbZ.block _ (zau hr.own ha).2.1,hr.inF⟩;refine biE (fun hc=>?_) fun hc=>?_
  ·have hc:(k:Int)<(ms.length:Int):=dT hc;have hkl:k<ms.length:=by omega
   obtain⟨b,o,hq,hcall⟩:=cnt (lim:=1) hkl oMZ nMZ (by decide) (by decide);obtain⟨x,hx⟩:∃ x,ms[k]=x:=⟨_,rfl⟩;have hxm:x∈ms:=by rw [<- hx];exact gM hkl
   have htk:(ms.take (k+1)).flatMap (fun x=>zcm x.m)=(ms.take k).flatMap (fun x=>zcm x.m)++zcm x.m:=by
    rw [tsg hkl,List.flatMap_append,hx,List.flatMap_cons,List.flatMap_nil,List.append_nil]
   rw [hx] at hcall;have hat:zav Z ⟨b,o+k*336,none⟩ (mixC x):=by
    obtain⟨b',o',hq',_,hat⟩:=oMZ.row.at hkl;rw [hq] at hq';have:=hat k hkl;simp only [Option.some.injEq,Addr.mk.injEq,and_true] at hq';rw [<- hx,hq'.1,hq'.2];exact this
   have hbX2:b<X.heap.size:=(zau oM hq).2.1;subst hq;refine⟨k,rfl,hkl,?_⟩;refine cmo hcall ?_;rintro e _ ⟨rfl,rfl⟩;refine biE (fun h=>?_) fun h=>?_
   ·have h:cntR x.m 1=0:=Int.ofNat.inj (dT h);have hc0:zcm x.m=[]:=if_pos h;rw [hc0,List.append_nil] at htk;refine nxI (by omega) ?_;exact⟨(k+1,outs,po,co),(cvE rfl rfl),⟨hkl,by rw [hou,htk],oZ,nZ,hbZ⟩,zdc (by omega)⟩
   have h:cntR x.m 1≠0:=fun e=>(dF h) (by rw [e];rfl);have hc1:zcm x.m=zgZ x.m:=if_neg h;rw [hc1] at htk;refine⟨k,rfl,hkl,?_⟩;refine cmo zq5 ?_;rintro e U ⟨rfl,fU,sU,hbU⟩;have hxM:=nMZ x hxm;have hxB:=hmb x hxm;obtain⟨Rd,hRd⟩:∃ Rd:Nat->Prop,Rd=fun k=>k<X.heap.size\/k=Z.heap.size:=⟨_,rfl⟩;have ltX:∀ {α:Type} {E:Enc α} {T cc:Nat} {r:Option Addr} {ll:List α},RowIn E T w.heap.size (fun k=>w.heap.size<=k) X r cc ll->∀ a,r=some a->Rd a.block:=fun {α E T cc r ll} h a ha=>by rw [hRd];exact .inl (zau h.own ha).2.1
   have hX:=nM x hxm;have hM:MixM Rd U b (o+k*336) x.m x.q x.c x.p1 x.p2 x.p3 x.c1 x.c2 x.c3 x.xs x.ys:=by
    have r:∀ {α:Type} {E:Enc α} {T cc:Nat} {r:Option Addr} {ll:List α},RowIn E T w.heap.size (fun k=>w.heap.size<=k) Z r cc ll->SlR E U r ll:=fun {α E T cc r ll} h=>(h.own.below hbU).row;refine⟨zar hbU hat,r hxM.ev,fun e=>?_,r hxM.r1,hxM.e2,r hxM.r2,fun y hy=>r (hxM.n2 y hy),hxM.e3,r hxM.r3,fun y hy=>r (hxM.n3 y hy),by rw [hRd];exact .inl hbX2,ltX hX.ev,ltX hX.r1,ltX hX.r2,ltX hX.r3,fun y hy=>ltX (hX.n2 y hy),fun y hy=>ltX (hX.n3 y hy)⟩;rcases hxM.ev.own.inv with ⟨_,h,_⟩ | ⟨g,cur,h,_⟩
    ·exact h
    ·rw [e] at h;cases h
   have hRl:∀ k,Rd k->k<U.heap.size:=fun k hk=>by
    rw [hRd] at hk;omega
   have hTU:Tz64M U:=hG.t64.below (hbX.trans ((hbZ.trans (hbU.mono hZs)).mono hXs));have htz:=zcB hG.t64;have hI:=zq6 hM fU (by rw [hRd];exact .inr rfl) hRl hTU (by rw [hRd];left;omega) hxB hxB.ev;have hln:outs.length+(zgZ x.m).length<=30000:=by
    have h2:=hQ.len;have h3:(zec p V)=ms.flatMap (fun x=>zcm x.m):=by
     show (zbO p V).flatMap zcm=_;rw [<- hms,List.flatMap_map]
    rw [h3] at h2;have h4:ms.flatMap (fun x=>zcm x.m)=(ms.take (k+1)).flatMap (fun x=>zcm x.m)++(ms.drop (k+1)).flatMap (fun x=>zcm x.m):=(by rw [<- List.flatMap_append,List.take_append_drop]);rw [h4,htk,<- hou,lap,lap,List.length_map] at h2;omega
   refine cmo (zjM (oZ.below hbU) (fun y hy=>(nZ y hy).below hbU) (by omega) hI (Nat.le_refl _) (fun k hk=>⟨hRl k hk,rfl⟩) (fun k hk=>by rw [hRd] at hk;exact hk) fU (by omega) hln) ?_;rintro e T ⟨⟨new,pn,cn,rfl,hnew,oT,nT⟩,hbT⟩;refine nxI (by omega) ?_;exact⟨(k+1,outs++new,pn,cn),(cvE rfl rfl),⟨hkl,by rw [List.map_append,hou,hnew,htk],oT,nT,(hbZ.trans (hbU.mono hZs)).trans hbT⟩,zdc (by omega)⟩
  ·have hc:¬ (k:Int)<(ms.length:Int):=dF hc;obtain rfl:k=ms.length:=by omega
   rw [List.take_length] at hou;refine⟨(outs,po,co),(cvE rfl rfl),?_,oZ,nZ,hbZ⟩;rw [hou];show ms.flatMap _=(zbO p V).flatMap zcm;rw [<- hms,List.flatMap_map]
 rintro⟨outs,po,co⟩ Z ⟨hou,oZ,nZ,hbZ⟩;exact⟨⟨outs,po,co,rfl,hou,oZ.lower hXs,fun x hx=>(nZ x hx).lower hXs⟩,hbX.trans (hbZ.mono hXs)⟩
end
def zqH (x:InsD):Bool:=(decide (x.op=1)&&decide (x.dst.toNat<8))||((decide (x.op=2)&&(!x.ar||decide (x.an.toNat<8)))||decide (x.op=7))
theorem zqG {x:InsD} (h:zqH x=true):ExOk x:=by
 unfold zqH at h;simp only [Bool.or_eq_true,bAT,dE,Bool.not_eq_true'] at h;rcases h with ⟨h1,h2⟩ | ⟨h1,h2⟩ | h1
 ·exact .inl ⟨h1,h2⟩
 ·refine .inr (.inl ⟨h1,fun h=>?_⟩);rcases h2 with h2 | h2
  ·rw [h] at h2;cases h2
  ·exact h2
 ·exact .inr (.inr h1)
def zp6 (locs:Nat) (P:PathD):Bool :=
 decide (P.ev.length<=24)&&((P.ev.all fun e => !(decide (e.k=1)||decide (e.k=2))||decide (e.l.toNat<locs))&&((P.data.all fun p=>decide (p.1<P.ev.length)&&decide (p.2<P.ev.length))&&((P.ctrl.all fun p=>decide (p.1<P.ev.length)&&decide (p.2<P.ev.length))&&((P.rmw.all fun p=>decide (p.1<P.ev.length)&&decide (p.2<P.ev.length)) &&
  (decide (P.data.length<=100000)&&(decide (P.ctrl.length<=100000)&&decide (P.rmw.length<=100000)))))))
theorem zor {locs:Nat} {P:PathD} (h:zp6 locs P=true):PathB locs P:=by
 unfold zp6 at h;simp only [bAT,Bool.or_eq_true,dE,List.all_eq_true,Bool.not_eq_true',Bool.or_eq_false_iff,decide_eq_false_iff_not] at h;obtain⟨h1,h2,h3,h4,h5,h6,h7,h8⟩:=h;refine⟨h1,fun e he hk=>?_,h3,h4,h5,h6,h7,h8⟩;rcases h2 e he with h | h
 ·rcases hk with hk | hk
  ·exact (h.1 hk).elim
  ·exact (h.2 hk).elim
 ·exact h
def znB (p:Prg) (n:Nat) (V:List UInt8) (most:Nat):Bool :=
 zjg p&&(decide (p.locs.length=p.init.length)&&(decide (1<=p.init.length)&&(decide (p.init.length<=6)&&(srt8 p.init&&(decide (zkP p.threads n (ded p.init)=some V)&&(decide (1<=V.length)&&(decide (V.length<=12)&&(srt8 V&&(decide ((ded V).length<=12)&&(decide (p.threads.length<=4) &&
  ((p.threads.all fun l=>decide (l.length<=12)&&(l.all zqH&&(zbR l 6&&decide ((zcL l (ded V)).length<=4096)))) &&
   (((List.range (p.threads.length+1)).all fun k=>decide (zev ((p.threads.take k).map fun l=>(zaG V l).length)<=4096)) &&
    ((p.threads.all fun l=>(zaG V l).all (zp6 p.init.length)) &&
     (((zeo ((p.threads.map (zaG V)).map List.length)).all fun ds=>(mixR p.init (zey (p.threads.map (zaG V)) ds)).isSome) &&
      (decide ((zbO p V).length<=5000)&&((zbO p V).all zqg&&(decide (most<=20000)&&(decide (((zbO p V).map fun m=>cntR m 20001).sum<=most)&&decide ((zec p V).length<=30000)))))))))))))))))))
theorem zoW {p:Prg} {n:Nat} {V:List UInt8} {most:Nat} (h:znB p n V most=true):CandQ p n V most:=by
 unfold znB at h;simp only [bAT,dE,List.all_eq_true,List.mem_range] at h;obtain⟨h1,h2,h3,h4,h5,h6,h7,h8,h9,h10,h11,h12,h13,h14,h15,h16,h17,h18,h19,h20⟩:=h;exact⟨h1,h2,h3,h4,h5,h6,h7,h8,h9,h10,h11,fun l hl=>⟨(h12 l hl).1,fun x hx=>zqG ((h12 l hl).2.1 x hx),(h12 l hl).2.2.1,(h12 l hl).2.2.2⟩,fun k hk=>h13 k (by omega),fun l hl P hP=>zor (h14 l hl P hP),h15,h16,fun m hm=>zqh (h17 m hm),h18,h19,h20⟩
def stI (l v m:UInt8):InsD:=⟨2,0,l,false,v,false,0,0,m,0⟩
def exvB (x:ExD):Bool:=decide (x.ev.length<=20)&&(wrdB x.po&&(wrdB x.rf&&(wrdB x.co&&(wrdB x.dt&&(wrdB x.ct&&wrdB x.rm)))))
abbrev lnA (s:Bs):List LineD:=(zaJ s).1.getD []
def txA2:Bs:=[101,109,112,116,121,32,91,82,93,59,112,111,32,97,115,32,120]
def txA4:Bs:=[101,109,112,116,121,32,99,111,32,97,115,32,120]
def txA5:Bs:=[108,101,116,32,97,32,61,32,98]
def txA6:Bs:=[108,101,116,32,112,111,32,61,32,114,102]
def txA7:Bs:=[101,109,112,116,121,32,112,111]
def prA2:Bs:=[101,109,112,116,121,32,91,82,93,32,59,32,112,111,32,97,115,32,120,10]
def prA3:Bs:=[97,99,121,99,108,105,99,32,40,112,111,32,124,32,114,102,41,43,32,97,115,32,120,10]
def tmA:Trm := .mk 2 [] [.mk 2 [] [.mk 2 [] [nmT [112,111],nmT [114,102]],nmT [99,111]],nmT [102,114]]
def tmB:Trm := .mk 5 [] [.mk 9 [82] [],nmT [112,111]]
theorem pa2:((zdt (lnA txA2)).map (·.1)).getD []=prA2:=by kernel_rfl
theorem pa2s:(zdt (lnA txA2)).isSome=true:=by kernel_rfl
theorem pa3:((zdt (lnA txT3)).map (·.1)).getD []=prA3:=by kernel_rfl
theorem pa3s:(zdt (lnA txT3)).isSome=true:=by kernel_rfl
theorem sm1:zj1 (lnA txT1) [⟨1,[111,114,100,101,114],tmA⟩]=true:=by kernel_rfl
theorem sm2:zj1 (lnA txA2) [⟨3,[120],tmB⟩]=true:=by kernel_rfl
theorem ln4:lnA txA4=[⟨3,[120],nmT [99,111]⟩]:=by kernel_rfl
def zm7 (s:Bs) (er:Int) (at_:Nat):Bool:=decide ((zaJ s).2.2=er)&&(decide ((zaJ s).2.1=at_)&&decide ((zaJ s).1.getD []=[]))
theorem fa5:zm7 txA5 112 8=true:=by kernel_rfl
theorem fa6:zm7 txA6 111 4=true:=by kernel_rfl
theorem fa7:zm7 txA7 110 8=true:=by kernel_rfl
def catP:Prg:=⟨[116],[[120]],[0],[[stI 0 1 0]],1,.mk 0 0 0 0 []⟩
theorem zsr:znB catP 5 [0,1] 1=true:=by kernel_rfl
theorem zoV:(zec catP [0,1]).length=1:=by kernel_rfl
abbrev xCat:ExD:=(zec catP [0,1]).getD 0 (ex0 0)
theorem zrq:exvB xCat=true:=by kernel_rfl
theorem zrr:zhH [⟨3,[120],nmT [99,111]⟩] xCat=(false,[120],0):=by kernel_rfl
section
variable {w X Y:World}
def MoB (X:World) (d:Nat) (s:Bs):Prop:=∃ p cap,X.heap[d]?=some (.cells #[.slice p (lnA s).length cap] 26 (0,0))/\LinsM AllB X p (lnA s)/\(lnA s).length<=40
theorem MoB.below {d:Nat} {s:Bs} (h:MoB X d s) (hb:Bw X Y):MoB Y d s:=by
 obtain⟨p,cap,h1,h2,h3⟩:=h;exact⟨p,cap,zab hb h1,h2.below hb,h3⟩
def TeB (X:World) (d:Nat) (t:Trm):Prop:=∃ p cap,X.heap[d]?=some (.cells (zad t p cap).toArray 34 (0,0))/\KidsT AllB X p t.kids
theorem TeB.below {d:Nat} {t:Trm} (h:TeB X d t) (hb:Bw X Y):TeB Y d t:=by
 obtain⟨p,cap,h1,h2⟩:=h;exact⟨p,cap,zab hb h1,h2.kept hb⟩
structure FndC (X:World) (F:List ExD) (xs:List exE3) (q:Option Addr):Prop where
 e:xs.map (·.1)=F
 row:SlR exE X q xs
 ev:∀ x∈xs,SlR evE X x.2.1 x.1.ev
theorem FndC.below {F:List ExD} {xs:List exE3} {q:Option Addr} (h:FndC X F xs q) (hb:Bw X Y):FndC Y F xs q:=⟨h.e,h.row.below hb,fun x hx=>(h.ev x hx).below hb⟩
theorem zeP {r:RelD} (h:wrdB r=true):WrdR r.to:=by
 unfold wrdB at h;rw [List.all_eq_true] at h;exact fun i hi=>dT (h i (List.mem_range.2 hi))
theorem zqx {x:ExD} {q:Option Addr} (h:exvB x=true) (he:SlR evE X q x.ev):ExV X x q:=by
 unfold exvB at h;simp only [bAT,dE] at h;obtain⟨h1,h2,h3,h4,h5,h6,h7⟩:=h;exact⟨he,h1,zeP h2,zeP h3,zeP h4,zeP h5,zeP h6,zeP h7⟩
theorem FndC.one {xs:List exE3} {q:Option Addr} (h:FndC X (zec catP [0,1]) xs q):xs.length=1/\∃ (b o:Nat) (p:Option Addr) (c:Nat),q=some ⟨b,o,none⟩/\b<X.heap.size/\zav X ⟨b,o+0*333,none⟩ (exC xCat p c)/\ExV X xCat p:=by
 have hl:xs.length=1:=by
  have:=congrArg List.length h.e;rw [List.length_map,zoV] at this;exact this
 have hix:0<xs.length:=by omega
 obtain⟨b,o,hq,hb,hat⟩:=h.row.at hix;obtain⟨y,hy⟩:∃ y,xs[0]=y:=⟨_,rfl⟩;have hym:y∈xs:=by rw [<- hy];exact gM hix
 have hF:y.1=xCat:=by
  show _=(zec catP [0,1]).getD 0 (ex0 0);rw [<- h.e,gDe,List.getElem?_map,gE hix,hy];rfl
 have hatk:=hat 0 hix;rw [hy] at hatk;have hev:=h.ev y hym;obtain⟨y1,p,c⟩:=y;dsimp only at hF hev;subst hF;exact⟨hl,b,o,p,c,hq,hb,hatk,zqx zrq hev⟩
theorem zsq {W:World} {bs bi bn bt:Nat} (g1:W.heap[bs]?=some (.cells #[strV [120]] 9 (0,0))) (g2:W.heap[bi]?=some (.cells #[u8 0] 5 (0,0)))
  (g3:W.heap[bn]?=some (.cells (insE.enc (stI 0 1 0)).toArray 93 (0,0))) (g4:W.heap[bt]?=some (.cells #[.slice (some ⟨bn,0,none⟩) 1 1] 94 (0,0))) :
  PrgX W.heap.size W (zb2 catP (some ⟨bs,0,none⟩) 1 (some ⟨bi,0,none⟩) 1 (some ⟨bt,0,none⟩) 1 none 0) catP:=by
 have rI:RowB zaM W.heap.size W (some ⟨bi,0,none⟩) [0] := .inr ⟨bi,0,rfl,hlt g2,zaa g2⟩;have hx:RowB insE W.heap.size W (some ⟨bn,0,none⟩) [stI 0 1 0] := .inr ⟨bn,0,rfl,hlt g3,by
  have:[stI 0 1 0].flatMap insE.enc=insE.enc (stI 0 1 0):=by rw [List.flatMap_cons,List.flatMap_nil,List.append_nil]
  rw [this];exact zaa g3⟩
 have rr:RowB thrE W.heap.size W (some ⟨bt,0,none⟩) [([stI 0 1 0],some ⟨bn,0,none⟩,1)] := .inr ⟨bt,0,rfl,hlt g4,zaa g4⟩;have rT:ThrsW W.heap.size W (some ⟨bt,0,none⟩) [[stI 0 1 0]]:=by
  refine⟨[([stI 0 1 0],some ⟨bn,0,none⟩,1)],rfl,rr,fun x h=>?_⟩;obtain rfl:=List.mem_singleton.1 h;exact⟨hx,fun a ha=>by cases ha;exact hlt g3⟩
 refine⟨⟨⟨by show 1<=_;decide,by show 1<=_;decide,fun s hs=>?_,by show 1<=_;decide,by show 1<=_;decide,fun l h=>?_⟩,some ⟨bs,0,none⟩,1,some ⟨bi,0,none⟩,1,some ⟨bt,0,none⟩,1,none,0,rfl,?_,rI,?_,?_,?_⟩,⟨_,_,rfl,rT⟩,⟨_,_,rfl,rI⟩⟩
 ·have hs:s=[120]:=by simpa [catP] using hs
  rw [hs];decide
 ·have hs:l=[stI 0 1 0]:=by simpa [catP] using h
  rw [hs];decide
 ·exact .inr ⟨bs,0,rfl,hlt g1,zaa g1⟩
 ·obtain⟨xs,hxs,hr,hx⟩:=rT;exact⟨xs,hxs,hr,fun x h=>(hx x h).1⟩
 ·exact .mk none [] (by decide) 0 0 (.inl rfl) (fun _=>none) (fun _=>0) (fun i hi=>by simp at hi) (fun i hi=>by simp at hi)
 ·show 1<=1;decide
theorem LinsM.one {k b cap:Nat} {nq:Bs} {t:Trm} {q:Option Addr} (f:X.heap[b]?=some (.cells (zat k nq t q cap).toArray 62 (0,0))) (hk:k<=255) (hn:nq.length<=140737488351232) (ht:t.name.length<=140737488351232) (kk:KidsT AllB X q t.kids):LinsM AllB X (some ⟨b,0,none⟩) [⟨k,nq,t⟩]:=by
 refine⟨[(⟨k,nq,t⟩,q,cap)],rfl,SlR.of_cells (hlt f) ?_,fun x hx=>?_,fun _ _ _=>trivial⟩
 ·have:[((⟨k,nq,t⟩,q,cap):LinX)].flatMap linE.enc=zat k nq t q cap:=by rw [List.flatMap_cons,List.flatMap_nil,List.append_nil];rfl
  rw [this];exact zaa f
 ·obtain rfl:=List.mem_singleton.1 hx;exact⟨hk,hn,ht,kk⟩
structure GlobA (w:World):Prop where
 k:GlobK w
 e:GlobE w
theorem GlobA.below (h:GlobA w) (hb:Bw w X):GlobA X:=⟨h.k.below hb,h.e.below hb⟩
theorem zgb {s:Bs} (h:Nat.ble s.length 140737488351232=true):s.length<=140737488351232:=Nat.le_of_ble_eq_true h
theorem zsA (hG:GlobA w):CB 9 #[] w (.bool true):=by
 refine cofM 110 [] (.s .p (.c .p (.c .p (.c .p (.c .p (.c .p (.c .p (.c .p (.c .p (.c .p .p)))))))))) Tryz.func9 ?_;refine⟨Nat,fun d=>⟨[(1,At0 d)],[]⟩,fun d X=>MoB X d txT1/\Bw w X,?_,?_⟩
 ·skip
  refine cmo (zhm (hG.k) txT1 (zgb rfl)) ?_;rintro e Y ⟨p,cap,rfl,hM,h40,bY⟩;refine zal (X:=Y) (v := .agg #[.slice p (lnA txT1).length cap]) k26 rfl rfl rfl fun Z hbZ fZ sZ=>?_;have mZ:MoB Z Y.heap.size txT1:=⟨p,cap,fZ,(hM.below hbZ).weak fun b _=>trivial,h40⟩;have bZ:=zst bY hbZ;exact⟨Y.heap.size,⟨.cons rfl (.nil),rfl⟩,mZ,bZ⟩
 rintro d1 X ⟨m1,b0⟩;refine⟨Nat,fun d=>⟨[(1,At0 d1),(2,At0 d)],[]⟩,fun d X=>MoB X d1 txT1/\MoB X d txA2/\Bw w X,?_,?_⟩
 ·skip
  refine cmo (zhm (hG.k.below b0) txA2 (zgb rfl)) ?_;rintro e Y ⟨p,cap,rfl,hM,h40,bY⟩;refine zal (X:=Y) (v := .agg #[.slice p (lnA txA2).length cap]) k26 rfl rfl rfl fun Z hbZ fZ sZ=>?_;have mZ:MoB Z Y.heap.size txA2:=⟨p,cap,fZ,(hM.below hbZ).weak fun b _=>trivial,h40⟩;have bZ:=zst bY hbZ;exact⟨Y.heap.size,⟨.cons rfl (.cons rfl (.nil)),rfl⟩,m1.below bZ,mZ,(zst b0 bZ)⟩
 clear m1 b0 X;rintro d2 X ⟨m1,m2,b0⟩;refine⟨Unit,fun _=>⟨[(1,At0 d1),(2,At0 d2),(3,strV prA2),(4,i64 0)],[]⟩,fun _ X=>MoB X d1 txT1/\MoB X d2 txA2/\Bw w X,?_,?_⟩
 ·obtain⟨p,cap,f2,hM,h40⟩:=m2;refine⟨_,rfl,zaa f2,hlt f2,?_⟩;refine cmo (znP (cap:=cap) (hG.k.below b0) hM (by omega)) ?_;rintro e Y ⟨rfl,bY⟩;exact⟨(),⟨.cons rfl (.cons rfl (.cons (congrArg (fun s=>some (strV s)) pa2) (.cons (congrArg (fun n=>some (i64 n)) (if_pos pa2s)) .nil))),rfl⟩,m1.below bY,⟨p,cap,zab bY f2,hM.below bY,h40⟩,(zst b0 bY)⟩
 clear m1 m2 b0 X;rintro _ X ⟨m1,m2,b0⟩;refine⟨Nat,fun d=>⟨[(1,At0 d1),(2,At0 d2),(3,strV prA2),(4,i64 0),(5,At0 d)],[]⟩,fun d X=>MoB X d1 txT1/\MoB X d2 txA2/\MoB X d txT3/\Bw w X,?_,?_⟩
 ·skip
  refine cmo (zhm (hG.k.below b0) txT3 (zgb rfl)) ?_;rintro e Y ⟨p,cap,rfl,hM,h40,bY⟩;refine zal (X:=Y) (v := .agg #[.slice p (lnA txT3).length cap]) k26 rfl rfl rfl fun Z hbZ fZ sZ=>?_;have mZ:MoB Z Y.heap.size txT3:=⟨p,cap,fZ,(hM.below hbZ).weak fun b _=>trivial,h40⟩;have bZ:=zst bY hbZ;exact⟨Y.heap.size,⟨.cons rfl (.cons rfl (.cons rfl (.cons rfl (.cons rfl (.nil))))),rfl⟩,m1.below bZ,m2.below bZ,mZ,(zst b0 bZ)⟩
 clear m1 m2 b0 X;rintro d5 X ⟨m1,m2,m5,b0⟩;refine⟨Unit,fun _=>⟨[(1,At0 d1),(2,At0 d2),(3,strV prA2),(4,i64 0),(6,strV prA3),(7,i64 0)],[]⟩,fun _ X=>MoB X d1 txT1/\MoB X d2 txA2/\Bw w X,?_,?_⟩
 ·obtain⟨p,cap,f2,hM,h40⟩:=m5;refine⟨_,rfl,zaa f2,hlt f2,?_⟩;refine cmo (znP (cap:=cap) (hG.k.below b0) hM (by omega)) ?_;rintro e Y ⟨rfl,bY⟩;exact⟨(),⟨.cons rfl (.cons rfl (.cons rfl (.cons rfl (.cons (congrArg (fun s=>some (strV s)) pa3) (.cons (congrArg (fun n=>some (i64 n)) (if_pos pa3s)) .nil))))),rfl⟩,m1.below bY,m2.below bY,(zst b0 bY)⟩
 clear m1 m2 m5 b0 X;rintro _ X ⟨m1,m2,b0⟩;refine⟨Nat,fun d=>⟨[(1,At0 d1),(2,At0 d2),(3,strV prA2),(4,i64 0),(6,strV prA3),(7,i64 0),(8,At0 d)],[]⟩,fun d X=>MoB X d1 txT1/\MoB X d2 txA2/\TeB X d tmA/\Bw w X,?_,?_⟩
 ·refine cmo (ziE [112,111]) ?_;rintro e V1 ⟨rfl,v1⟩;refine cmo (ziE [114,102]) ?_;rintro e V2 ⟨rfl,v2⟩;refine cmo (zn0 (k:=2) (a:=nmT [112,111]) (b:=nmT [114,102]) .nil .nil (by decide) (by decide)) ?_;rintro e V3 ⟨r3,rfl,k3,v3⟩;refine cmo (ziE [99,111]) ?_;rintro e V4 ⟨rfl,v4⟩;refine cmo (zn0 (k:=2) (a := .mk 2 [] [nmT [112,111],nmT [114,102]]) (b:=nmT [99,111]) (k3.kept v4) .nil (by decide) (by decide)) ?_;rintro e V5 ⟨r5,rfl,k5,v5⟩;refine cmo (ziE [102,114]) ?_;rintro e V6 ⟨rfl,v6⟩;refine cmo (zn0 (k:=2) (a := .mk 2 [] [.mk 2 [] [nmT [112,111],nmT [114,102]],nmT [99,111]]) (b:=nmT [102,114]) (k5.kept v6) .nil (by decide) (by decide)) ?_;rintro e V7 ⟨r7,rfl,k7,v7⟩;refine zal (X:=V7) (v := .agg (zad tmA r7 2).toArray) k34 rfl rfl rfl fun Z hbZ fZ sZ=>?_;have c2:=zst v1 v2;have c3:=zst c2 v3;have c4:=zst c3 v4;have c5:=zst c4 v5;have c6:=zst c5 v6;have c7:=zst c6 v7;have bZ:=zst c7 hbZ;exact⟨V7.heap.size,⟨.cons rfl (.cons rfl (.cons rfl (.cons rfl (.cons rfl (.cons rfl (.cons rfl (.nil))))))),rfl⟩,m1.below bZ,m2.below bZ,⟨r7,2,fZ,k7.kept hbZ⟩,(zst b0 bZ)⟩
 clear m1 m2 b0 X;rintro d8 X ⟨m1,m2,t8,b0⟩;refine⟨List exE3×Option Addr×Nat,fun s=>⟨[(1,At0 d1),(2,At0 d2),(3,strV prA2),(4,i64 0),(6,strV prA3),(7,i64 0),(8,At0 d8),(9,.slice s.2.1 s.1.length s.2.2),(10,i64 0)],[]⟩,fun s X=>MoB X d1 txT1/\MoB X d2 txA2/\TeB X d8 tmA/\FndC X (zec catP [0,1]) s.1 s.2.1/\Bw w X,?_,?_⟩
 ·refine⟨⟨by decide,by decide,rfl⟩,[strV [120]],rfl,?_⟩;obtain⟨V1,e1⟩:=nm (X.alloc (.cells [strV [120]].toArray 9));have v1:Bw X V1:=by rw [e1];exact zba _ _
  have f1:V1.heap[X.heap.size]?=some (.cells #[strV [120]] 9 (0,0)):=by rw [e1];exact hnew _ _
  rw [<- e1];refine⟨⟨by decide,by decide,rfl⟩,[u8 0],rfl,?_⟩;obtain⟨V2,e2⟩:=nm (V1.alloc (.cells [u8 0].toArray 5));have v2:Bw V1 V2:=by rw [e2];exact zba _ _
  have f2:V2.heap[V1.heap.size]?=some (.cells #[u8 0] 5 (0,0)):=by rw [e2];exact hnew _ _
  rw [<- e2];refine⟨_,rfl,?_⟩;refine⟨insE.enc (stI 0 1 0),by kernel_rfl,?_⟩;refine⟨⟨by decide,by decide,rfl⟩,insE.enc (stI 0 1 0),by kernel_rfl,?_⟩;obtain⟨V3,e3⟩:=nm (V2.alloc (.cells (insE.enc (stI 0 1 0)).toArray 93));have v3:Bw V2 V3:=by rw [e3];exact zba _ _
  have f3:V3.heap[V2.heap.size]?=some (.cells (insE.enc (stI 0 1 0)).toArray 93 (0,0)):=by rw [e3];exact hnew _ _
  rw [<- e3];refine⟨⟨by decide,by decide,rfl⟩,[.slice (some ⟨V2.heap.size,0,none⟩) 1 1],rfl,?_⟩;obtain⟨V4,e4⟩:=nm (V3.alloc (.cells [.slice (some ⟨V2.heap.size,0,none⟩) 1 1].toArray 94));have v4:Bw V3 V4:=by rw [e4];exact zba _ _
  have f4:V4.heap[V3.heap.size]?=some (.cells #[.slice (some ⟨V2.heap.size,0,none⟩) 1 1] 94 (0,0)):=by rw [e4];exact hnew _ _
  rw [<- e4];refine⟨zb2 catP (some ⟨X.heap.size,0,none⟩) 1 (some ⟨V1.heap.size,0,none⟩) 1 (some ⟨V3.heap.size,0,none⟩) 1 none 0,rfl,?_⟩;have c2:=zst v1 v2;have c3:=zst c2 v3;have c4:=zst c3 v4;have hP:=zsq (W:=V4) (zab v4 (zab v3 (zab v2 f1))) (zab v4 (zab v3 f2)) (zab v4 f3) f4;refine cmo (zro (B:=V4.heap.size) (n:=5) (V:=[0,1]) (Nat.le_refl _) hP ((hG.e.below b0).below c4) (zoW zsr)) ?_;rintro e Z ⟨⟨xs,q,c,rfl,h1,h2,h3⟩,bZ⟩;have c5:=zst c4 bZ;exact⟨(xs,q,c),⟨.cons rfl (.cons rfl (.cons rfl (.cons rfl (.cons rfl (.cons rfl (.cons rfl (.cons rfl (.cons rfl (.nil))))))))),rfl⟩,m1.below c5,m2.below c5,t8.below c5,⟨h1,h2.row,fun x hx=>(h3 x hx).row⟩,(zst b0 c5)⟩
 clear m1 m2 t8 b0 X;rintro⟨xs,q,c⟩ X ⟨m1,m2,t8,hF,b0⟩;dsimp only at hF ⊢;obtain⟨hl,bb,ob,p,cx,hq,hbb,hcx,hvx⟩:=hF.one;subst hq;refine⟨Unit,fun _=>⟨[(1,At0 d1),(2,At0 d2),(3,strV prA2),(4,i64 0),(6,strV prA3),(7,i64 0),(8,At0 d8),(9,.slice (some ⟨bb,ob,none⟩) 1 c)],[]⟩,fun _ Y=>X=Y,?_,?_⟩
 ·refine And.intro (fun h=>absurd (show false=true from h) (by decide)) (fun _=>?_);refine biE (fun h=>?_) fun _=>?_
  ·have h:(!decide ((xs.length:Int)=1))=true:=h;rw [hl] at h;cases h
  ·exact⟨(),⟨.cons rfl (.cons rfl (.cons rfl (.cons rfl (.cons rfl (.cons rfl (.cons rfl (.cons (by show some (Value.slice (some ⟨bb,ob,none⟩) xs.length c)=_;rw [hl]) .nil))))))),rfl⟩,rfl⟩
 rintro _ _ rfl;refine⟨Unit,fun _=>⟨[(1,At0 d1),(2,At0 d2),(3,strV prA2),(4,i64 0),(6,strV prA3),(7,i64 0),(8,At0 d8),(11,.bool false),(12,strV [120]),(13,i64 0)],[]⟩,fun _ Y=>MoB Y d1 txT1/\MoB Y d2 txA2/\TeB Y d8 tmA/\Bw w Y,?_,?_⟩
 ·have bd:=(Below.refl X.heap.size X).drew;refine DrawE.ord [] [1,2,3,0,4,5,6,7,8,9,10,11] (by kernel_rfl) ?_;refine⟨0,rfl,by decide,?_⟩;refine⟨exC xCat p cx,zaB _ _ _,hcx,hbb,?_⟩;refine cmo (zhm (hG.k.below ((zst b0 bd))) txA4 (zgb rfl)) ?_;rintro e Y ⟨p4,cap4,rfl,hM,h40,bY⟩;refine⟨bY,?_⟩;have b1:=zst bd bY;have b2:=zst b0 b1;have hh:zhH (lnA txA4) xCat=(false,[120],0):=by rw [ln4];exact zrr
  have hone:∀ l∈lnA txA4,l=⟨3,[120],nmT [99,111]⟩:=fun l hl=>by rw [ln4] at hl;exact List.mem_singleton.1 hl
  refine cmo (zlC (cap:=cap4) (q:=p) (c:=cx) (hG.k.below b2) (hM.weak fun b _=>trivial) (by omega) (hvx.below b1) ((hG.e.below b2).t64) (fun bb mb l hl _=>by rw [hone l hl];exact znX _ _) (fun l hl h=>by rw [hone l hl] at h;cases h)) ?_;rintro e Z ⟨rfl,bZ⟩;rw [hh];refine⟨bZ,?_⟩;have b3:=zst b1 bZ;exact⟨(),⟨.cons rfl (.cons rfl (.cons rfl (.cons rfl (.cons rfl (.cons rfl (.cons rfl (.cons rfl (.cons rfl (.cons rfl (.nil)))))))))),rfl⟩,m1.below b3,m2.below b3,t8.below b3,(zst b0 b3)⟩
 clear m1 m2 t8 b0 hF hbb hcx hvx X;rintro _ X ⟨⟨p1,k1,f1,hM1,h1⟩,⟨p2,k2,f2,hM2,h2⟩,⟨p8,k8,f8,hK8⟩,b0⟩;have bd:=(Below.refl X.heap.size X).drew;have bw:=zst b0 bd;refine DrawE.ord [] (List.range 50) (by kernel_rfl) ?_;refine⟨0,rfl,?_⟩;refine⟨0,rfl,?_⟩;refine And.intro (fun _=>?_) (fun h=>absurd (show true=false from h) (by decide));refine⟨_,rfl,zaa (hdr f1),hlt (hdr f1),?_⟩;refine⟨_,rfl,zaa (hdr f8),hlt (hdr f8),?_⟩;refine⟨zat 1 [111,114,100,101,114] tmA p8 k8,rfl,?_⟩;refine⟨⟨by decide,by decide,rfl⟩,zat 1 [111,114,100,101,114] tmA p8 k8,rfl,?_⟩;obtain⟨V1,e1⟩:=nm (X.drew.alloc (.cells (zat 1 [111,114,100,101,114] tmA p8 k8).toArray 62));have v1:Below X.drew.heap.size X.drew V1:=by rw [e1];exact zba _ _
 have g1:V1.heap[X.drew.heap.size]?=some (.cells (zat 1 [111,114,100,101,114] tmA p8 k8).toArray 62 (0,0)):=by rw [e1];exact hnew _ _
 rw [<- e1];refine⟨v1,?_⟩;have c1:=zst bd v1;refine⟨_,rfl,?_⟩;refine cmo (znM (a:=lnA txT1) (b:=[⟨1,[111,114,100,101,114],tmA⟩]) (c:=k1) (d:=1) (by omega) (by decide) (hM1.below c1) (LinsM.one g1 (by decide) (by decide) (by decide) (hK8.kept c1))) ?_;rintro e V2 ⟨rfl,v2⟩;refine⟨v2,?_⟩;have c2:=zst c1 v2;refine And.intro (fun _=>?_) (fun h=>absurd ((sm1).symm.trans h) (by decide));refine⟨_,rfl,zaa (zab c2 f2),hlt (zab c2 f2),?_⟩;refine⟨zad (.mk 9 [82] []) none 0,rfl,?_⟩;refine cmo (ziE [112,111]) ?_;rintro e V3 ⟨rfl,v3⟩;refine⟨v3,?_⟩;have c3:=zst c2 v3;refine cmo (zn0 (k:=5) (a := .mk 9 [82] []) (b:=nmT [112,111]) .nil .nil (by decide) (by decide)) ?_;rintro e V4 ⟨r4,rfl,k4,v4⟩;refine⟨v4,?_⟩;have c4:=zst c3 v4;refine⟨zat 3 [120] tmB r4 2,rfl,?_⟩;refine⟨⟨by decide,by decide,rfl⟩,zat 3 [120] tmB r4 2,rfl,?_⟩;obtain⟨V5,e5⟩:=nm (V4.alloc (.cells (zat 3 [120] tmB r4 2).toArray 62));have v5:Bw V4 V5:=by rw [e5];exact zba _ _
 have g5:V5.heap[V4.heap.size]?=some (.cells (zat 3 [120] tmB r4 2).toArray 62 (0,0)):=by rw [e5];exact hnew _ _
 rw [<- e5];refine⟨v5,?_⟩;have c5:=zst c4 v5;refine⟨_,rfl,?_⟩;refine cmo (znM (a:=lnA txA2) (b:=[⟨3,[120],tmB⟩]) (c:=k2) (d:=1) (by omega) (by decide) (hM2.below c5) (LinsM.one g5 (by decide) (by decide) (by decide) (k4.kept v5))) ?_;rintro e V6 ⟨rfl,v6⟩;refine⟨v6,?_⟩;have c6:=zst c5 v6;refine And.intro (fun _=>?_) (fun h=>absurd ((sm2).symm.trans h) (by decide));refine⟨_,fun w=>zay _ _ prA2 prA2 w,?_⟩;refine And.intro (fun _=>?_) (fun h=>absurd (((decide_eq_true rfl)).symm.trans h) (by decide));refine⟨_,fun w=>zay _ _ prA3 prA3 w,?_⟩;refine And.intro (fun _=>?_) (fun h=>absurd (((decide_eq_true rfl)).symm.trans h) (by decide));have hK6:=hG.k.below ((zst b0 c6));refine cmo (zju hK6 txA5 (zgb rfl) 112 8) ?_;rintro e V7 ⟨rfl,v7⟩;refine⟨v7,?_⟩;have c7:=zst c6 v7;refine And.intro (fun _=>?_) (fun h=>absurd ((fa5).symm.trans h) (by decide));refine cmo (zju (hG.k.below ((zst b0 c7))) txA6 (zgb rfl) 111 4) ?_;rintro e V8 ⟨rfl,v8⟩;refine⟨v8,?_⟩;have c8:=zst c7 v8;refine And.intro (fun _=>?_) (fun h=>absurd ((fa6).symm.trans h) (by decide));refine cmo (zju (hG.k.below ((zst b0 c8))) txA7 (zgb rfl) 110 8) ?_;rintro e V9 ⟨rfl,v9⟩;refine⟨v9,?_⟩;have c9:=zst c8 v9;refine And.intro (fun _=>?_) (fun h=>absurd ((fa7).symm.trans h) (by decide));refine And.intro (fun _=>?_) (fun h=>absurd (show true=false from h) (by decide));refine⟨_,fun w=>zay _ _ [120] [120] w,?_⟩;exact⟨rb (decide_eq_true rfl),(zst b0 c9)⟩
end
section
variable {s:Bs}
def FitT (s:Bs) (t:Tk):Prop:=(1<=t.text.length->t.at_+t.text.length<=s.length)/\(t.kind≠1->t.at_<s.length)/\(t.kind=2->1<=t.text.length)
theorem zds (s:Bs) (i:Nat):FitT s (zaw s i):=by
 have h2:=zib (s:=s) (i:=i);unfold zaw at h2 ⊢;obtain⟨a,ha⟩:=nm (zcZ s i);rw [<- ha] at h2 ⊢;by_cases h:a<s.length
 ·exact⟨fun _=>zlQ (by omega),fun _=>by rw [zlR];exact h,h2⟩
 ·have e:s[a]?=none:=List.getElem?_eq_none (by omega);have ht:zcq s a=⟨1,[],a⟩:=by unfold zcq;rw [e]
  rw [ht];exact⟨fun h=>absurd (show 1<=0 from h) (by decide),fun h=>absurd rfl h,fun h=>absurd (show 1=2 from h) (by decide)⟩
theorem FitT.mo {a b:PS} (h:FitT s a.tok) (k:MoS s a b):FitT s b.tok:=by
 rcases k.2.2 with e | ⟨i,e⟩
 ·rw [e];exact h
 ·rw [e];exact zds s i
def remP (s:Bs) (st:PS):Nat:=s.length-st.tok.at_
theorem zmk {a b:PS} (h:MoS s a b):remP s b<=remP s a:=by have:=h.1;unfold remP;omega
theorem zhj {st:PS} (hf:FitT s st.tok) (h:1<=st.tok.text.length):remP s (zbe (zaw s) st)+1<=remP s st:=by
 have:=hf.1 h;have:=zld s st;unfold remP;omega
theorem zcT {st:PS} {t:Bs} (h:isP st t=true):st.tok.text=t:=by
 unfold isP at h;rw [bAT] at h;exact dT h.2
theorem zlb {st:PS} (h:zaW st≠0):1<=st.tok.text.length:=by
 unfold zaW at h
 split at h
 ·rename_i e;rw [zcT e];decide
 split at h
 ·rename_i e;rw [zcT e];decide
 split at h
 ·rename_i e;rw [zcT e];decide
 split at h
 ·rename_i e;rw [zcT e];decide
 ·exact absurd rfl h
theorem zk5 {st:PS} (h:zdj st≠0):1<=st.tok.text.length:=by
 unfold zdj at h
 split at h
 ·rename_i e;rw [zcT e];decide
 split at h
 ·rename_i e;rw [zcT e];decide
 split at h
 ·rename_i e;rw [zcT e];decide
 ·exact absurd rfl h
theorem zhQ {st st2:PS} (h:zbv (zaw s) st=(false,st2)):st2.e≠0:=by
 unfold zbv at h
 split at h
 ·obtain⟨_,rfl⟩:=Prod.mk.inj h;show (5:Int)≠0;decide
 ·cases h
theorem zmN {st st2:PS} (h:zbv (zaw s) st=(true,st2)):st2.tok=(zbe (zaw s) st).tok:=by
 unfold zbv at h
 split at h
 ·cases h
 ·obtain⟨_,rfl⟩:=Prod.mk.inj h;rfl
theorem zeK {k:Nat} {t:Bs} {st st2:PS} (h:zaK (zaw s) k t st=(false,st2)):st2.e≠0:=by
 unfold zaK at h
 split at h
 ·obtain⟨_,rfl⟩:=Prod.mk.inj h;show (110:Int)≠0;decide
 ·cases h
theorem znc {used:Bs->Bool} {st st2:PS} (h:zby (zaw s) used st=(none,st2)):st2.e≠0:=by
 unfold zby at h
 split at h
 ·obtain⟨_,rfl⟩:=Prod.mk.inj h;show (110:Int)≠0;decide
 split at h
 ·obtain⟨_,rfl⟩:=Prod.mk.inj h;show (111:Int)≠0;decide
 ·cases h
theorem zpu {l:LineD} {st st2:PS} (h:endP l st=(none,st2)):st2.e≠0:=by
 unfold endP at h
 split at h
 ·obtain⟨_,rfl⟩:=Prod.mk.inj h;show (110:Int)≠0;decide
 ·cases h
theorem znb:∀ f,(∀ least st,FitT s st.tok->4*remP s st+3<=f->∀ st2,termP (zaw s) f least st=(none,st2)->st2.e≠0)/\(∀ least t st,FitT s st.tok->4*remP s st+1<=f->∀ st2,moreP (zaw s) f least t st=(none,st2)->st2.e≠0) /\
  (∀ st,FitT s st.tok->4*remP s st+2<=f->∀ st2,tightP (zaw s) f st=(none,st2)->st2.e≠0)/\(∀ t st,FitT s st.tok->4*remP s st+1<=f->∀ st2,postsP (zaw s) f t st=(none,st2)->st2.e≠0)/\(∀ st,FitT s st.tok->4*remP s st+1<=f->∀ st2,simpleP (zaw s) f st=(none,st2)->st2.e≠0)
 | 0=>⟨fun _ _ _ h=>absurd h (by omega),fun _ _ _ _ h=>absurd h (by omega),fun _ _ h=>absurd h (by omega),fun _ _ _ h=>absurd h (by omega),fun _ _ h=>absurd h (by omega)⟩
 | f+1=>by
  obtain⟨h1,h2,h3,h4,h5⟩:=znb f;obtain⟨m1,m2,m3,m4,m5⟩:=zc3 (s:=s) f;have node:∀ {st st2:PS},FitT s st.tok->1<=st.tok.text.length->zbv (zaw s) st=(true,st2)->FitT s st2.tok/\remP s st2+1<=remP s st:=fun {st st2} hf ht h=>by
   have e:=zmN h;have hr:=zhj hf ht;unfold remP at hr ⊢;rw [e];exact⟨zds s _,hr⟩
  refine⟨fun least st hf hn st2 h=>?_,fun least t st hf hn st2 h=>?_,fun st hf hn st2 h=>?_,fun t st hf hn st2 h=>?_,fun st hf hn st2 h=>?_⟩
  ·rw [termP] at h
   split at h <;> rename_i e
   ·obtain⟨_,rfl⟩:=Prod.mk.inj h;exact h3 st hf (by omega) _ e
   ·have hm:=m3 st;rw [e] at hm;have hr:=zmk hm;exact h2 _ _ _ (hf.mo hm) (by omega) _ h
  ·rw [moreP] at h
   split at h
   ·cases h
   ·rename_i hc;have ht:=zlb (st:=st) fun h0=>hc (.inl h0)
    split at h <;> rename_i st3 e
    ·obtain⟨_,rfl⟩:=Prod.mk.inj h;exact zhQ e
    ·obtain⟨hf2,hr2⟩:=node hf ht e
     split at h <;> rename_i e2
     ·obtain⟨_,rfl⟩:=Prod.mk.inj h;exact h1 _ _ hf2 (by omega) _ e2
     ·have hm:=m1 (zaW st) st3;rw [e2] at hm;have hr:=zmk hm;exact h2 _ _ _ (hf2.mo hm) (by omega) _ h
  ·rw [tightP] at h
   split at h <;> rename_i e
   ·obtain⟨_,rfl⟩:=Prod.mk.inj h;exact h5 st hf (by omega) _ e
   ·have hm:=m5 st;rw [e] at hm;have hr:=zmk hm;exact h4 _ _ (hf.mo hm) (by omega) _ h
  ·rw [postsP] at h
   split at h
   ·cases h
   ·rename_i hc;have ht:=zk5 hc
    split at h <;> rename_i e
    ·obtain⟨_,rfl⟩:=Prod.mk.inj h;exact zhQ e
    ·obtain⟨hf2,hr2⟩:=node hf ht e;exact h4 _ _ hf2 (by omega) _ h
  ·rw [simpleP] at h
   split at h
   ·split at h
    ·obtain⟨_,rfl⟩:=Prod.mk.inj h;show (112:Int)≠0;decide
    ·split at h <;> rename_i e
     ·cases h
     ·obtain⟨_,rfl⟩:=Prod.mk.inj h;exact zhQ e
   ·split at h
    ·split at h <;> rename_i e
     ·obtain⟨_,rfl⟩:=Prod.mk.inj h;exact zhQ e
     ·split at h
      ·obtain⟨_,rfl⟩:=Prod.mk.inj h;show (110:Int)≠0;decide
      ·split at h
       ·obtain⟨_,rfl⟩:=Prod.mk.inj h;show (112:Int)≠0;decide
       ·split at h <;> rename_i e2
        ·cases h
        ·obtain⟨_,rfl⟩:=Prod.mk.inj h;exact zeK e2
    ·split at h
     ·rename_i hc;have ht:1<=st.tok.text.length:=by
       rw [bAT] at hc;rw [zcT hc.1];decide
      have hr:remP s (zbe (zaw s) { st with deep:=st.deep+1 })+1<=remP s st:=zhj (st:={ st with deep:=st.deep+1 }) hf ht;have ht1:=h1 1 (zbe (zaw s) { st with deep:=st.deep+1 }) (zds s _) (by omega)
      split at h <;> rename_i e
      ·obtain⟨_,rfl⟩:=Prod.mk.inj h;have k:=ht1 _ e;exact k
      ·split at h <;> rename_i e2
       ·cases h
       ·obtain⟨_,rfl⟩:=Prod.mk.inj h;exact zeK e2
     ·obtain⟨_,rfl⟩:=Prod.mk.inj h;show (110:Int)≠0;decide
theorem zqN {f many:Nat} {st st2:PS} (hf:FitT s st.tok) (hn:4*s.length+3<=f) (h:zcG (zaw s) f many st=(none,st2)):st2.e≠0:=by
 have rl:∀ a:PS,remP s a<=s.length:=fun a=>Nat.sub_le _ _;have ht:∀ (least:Nat) (a b:PS),FitT s a.tok->termP (zaw s) f least a=(none,b)->b.e≠0:=fun least a b ha e=>(znb f).1 least a ha (by have:=rl a;omega) b e;unfold zcG at h
 split at h
 ·obtain⟨_,rfl⟩:=Prod.mk.inj h;show (110:Int)≠0;decide
 split at h
 ·obtain⟨_,rfl⟩:=Prod.mk.inj h;show (5:Int)≠0;decide
 split at h
 ·split at h <;> rename_i st9 e
  ·obtain⟨_,rfl⟩:=Prod.mk.inj h;exact znc e
  ·have hm:=zf1 (s:=s) (fun s=>relB s||st.lets s) (zbe (zaw s) st);rw [e] at hm;have f2:=(zds s _:FitT s (zbe (zaw s) st).tok).mo hm
   split at h <;> rename_i st3 e2
   ·obtain⟨_,rfl⟩:=Prod.mk.inj h;exact zeK e2
   ·have hx:=zcF (s:=s) 6 [61] st9;rw [e2] at hx;have f3:=f2.mo hx
    split at h <;> rename_i e3
    ·obtain⟨_,rfl⟩:=Prod.mk.inj h;have k:=ht _ _ _ f3 e3;exact k
    ·exact zpu h
 ·split at h <;> rename_i e
  ·obtain⟨_,rfl⟩:=Prod.mk.inj h;exact ht _ _ _ (zds s _) e
  ·split at h <;> rename_i e2
   ·obtain⟨_,rfl⟩:=Prod.mk.inj h;exact zeK e2
   ·split at h <;> rename_i e3
    ·obtain⟨_,rfl⟩:=Prod.mk.inj h;have k:=znc e3;exact k
    ·exact zpu h
theorem zhR {f:Nat} (hn:4*s.length+3<=f):∀ (n:Nat) (l:List LineD) (st:PS) (m:Nat) (e:Int),FitT s st.tok->remP s st<n->zcd (zaw s) f n l st=(none,m,e)->e≠0
 | 0,l,st,m,e,hf,hr,h=>absurd hr (by omega)
 | n+1,l,st,m,e,hf,hr,h=>by
  rw [zcd] at h
  split at h
  ·cases h
  ·rename_i hk;have ha:=hf.2.1 hk
   split at h
   ·rename_i hk2;have hr2:=zhj hf (hf.2.2 hk2);exact zhR hn n _ _ m e (zds s _) (by omega) h
   ·split at h <;> rename_i st3 e2
    ·simp only [Prod.mk.injEq,true_and] at h;obtain⟨_,rfl⟩:=h;exact zqN hf hn e2
    ·have ho:=zmT e2;have hm:=zmP (s:=s) f l.length st;rw [e2] at hm;exact zhR hn n _ st3 m e (hf.mo hm) (by unfold remP at hr ⊢;omega) h
theorem zhD {sc:Nat->Tk} {f:Nat}:∀ (n:Nat) (l:List LineD) (st:PS) (m:Nat) (e:Int) (r:List LineD),zcd sc f n l st=(some r,m,e)->e=0
 | 0,l,st,m,e,r,h=>by rw [zcd] at h;cases h
 | n+1,l,st,m,e,r,h=>by
  rw [zcd] at h
  split at h
  ·simp only [Prod.mk.injEq] at h;exact h.2.2.symm
  split at h
  ·exact zhD n _ _ m e r h
  split at h
  ·cases h
  ·exact zhD n _ _ m e r h
theorem zir (s:Bs):(zaJ s).1=none↔(zaJ s).2.2≠0:=by
 unfold zaJ
 split
 ·exact⟨fun _=>by show (3:Int)≠0;decide,fun _=>rfl⟩
 ·rename_i hl;rcases h:zcd (zaw s) 40000 10000 [] (zeq s) with ⟨r,m,e⟩
  cases r with
  | none =>
   refine⟨fun _=>zhR (s:=s) (by omega) _ _ _ m e (zds s 0) ?_ h,fun _=>rfl⟩;unfold remP;omega
  | some r =>
   have:=zhD _ _ _ m e r h;exact⟨fun h=>(by cases h),fun h=>absurd this h⟩
end
section
variable {s t:Bs} {k:Nat}
def strC (s t:Bs) (k:Nat):Bs:=s.take k++63::t
theorem zhc (hk:k<=s.length):(strC s t k).length=k+1+t.length:=by
 unfold strC;rw [lap,List.length_cons,List.length_take];omega
theorem zpO (hk:k<=s.length):(strC s t k)[k]?=some 63:=by
 unfold strC;have h:(s.take k).length=k:=by rw [List.length_take];omega
 rw [List.getElem?_append_right (by omega),h,Nat.sub_self];rfl
theorem zjY (hk:k<=s.length):∀ i,i<k->(strC s t k)[i]?=s[i]?:=fun i hi=>by
 unfold strC;have h:(s.take k).length=k:=by rw [List.length_take];omega
 rw [List.getElem?_append_left (by omega),List.getElem?_take,if_pos hi]
theorem zmx {j:Nat} (hk:k<=s.length) (hl:s.length+t.length<8192) (hj:j<=k) (h10:j=0\/s[j-1]?=some 10) (hno:35 ∉ (s.drop j).take (k-j)):(zaJ (strC s t k)).2.2≠0/\(zaJ (strC s t k)).2.1<=k:=by
 have hlo:=zjY (t:=t) hk;have h:=zmB (s:=strC s t k) (k:=k) (zpO hk) hj (by
  rcases h10 with h | h
  ·exact .inl h
  ·by_cases h0:j=0
   ·exact .inl h0
   ·exact .inr ((hlo (j-1) (by omega)).trans h)) (fun i h1 h2 e=>hno (by
    rw [hlo i h2] at e;refine List.mem_of_getElem? (i:=i-j) ?_;rw [List.getElem?_take,if_pos (by omega),List.getElem?_drop];rw [show j+(i-j)=i by omega];exact e)) (by rw [zhc hk];omega)
 exact⟨(zir _).1 h.1,h.2⟩
theorem zk7 (hk:k<=s.length) (hl:s.length+t.length<8192) (he:(zaJ s).2.2≠0) (hr:runE zbL s (zaJ s).2.1+2<k):zaJ (strC s t k)=zaJ s:=by
 have h0:=(zir s).2 he;rcases h:zaJ s with ⟨r,m,e⟩;rw [h] at h0 hr;have h0:r=none:=h0;subst h0;exact zis (s:=s) (s':=strC s t k) (k:=k) (m:=m) (zjY hk) hr (by omega) (by rw [zhc hk];omega) h
theorem zqo (l:Bs):∃ j:Nat,Lib.lastIndexByte (bs l) 10=(j:Int)-1/\j<=l.length/\(j=0\/l[j-1]?=some 10):=by
 rcases Lib.lastIndexByte_spec (bs l) 10 with ⟨e,_⟩ | ⟨i,hi,e,hc,_⟩
 ·exact⟨0,by rw [e];rfl,Nat.zero_le _,.inl rfl⟩
 ·have hi:i<l.length:=hi;refine⟨i+1,by rw [e];omega,hi,.inr ?_⟩;have h1:(bs l).data[i]! = l[i]:=by
   show (l.toArray)[i]! = _;rw [getElem!_pos l.toArray i (by simpa using hi)];simp
  rw [h1] at hc;rw [Nat.add_sub_cancel,gE hi];congr 1;refine UInt8.toNat_inj.1 ?_;show l[i].toNat=10;omega
end
theorem zkH (x y:Operand) (a b:List UInt8) (h:a.length+b.length<=1000000000) (w:World):(do eqGuard .add 9 x y (strV a) (strV b);binOp .add 9 (strV a) (strV b)).run Tryz.prog w = .ok (strV (a++b)) w:=by
 have h1:(eqGuard .add 9 x y (strV a) (strV b)).run Tryz.prog w = .ok () w:=rfl;have hsz:¬ (((bs a).size+(bs b).size:Nat):Int) > IntKind.i64.max:=by
  have e1:(bs a).size=a.length:=rfl;have e2:(bs b).size=b.length:=rfl;rw [e1,e2];have:IntKind.i64.max=9223372036854775807:=by decide
  omega
 have h3:bs a++bs b=bs (a++b):=by
  apply ByteArray.ext;simp [bs,ByteArray.data_append]
 rw [Sem.run_bind,h1,Result.andThen_ok];show (Op.stringOp .add (bs a) (bs b)).run Tryz.prog w=_;simp only [Op.stringOp,if_neg hsz,Sem.run_pure,h3];rfl
theorem zpC {c:UInt8} (h1:97<=c.toNat) (h2:c.toNat<=122):true=zbL c:=by
 unfold zbL zcs;rw [decide_eq_true h1,decide_eq_true h2];rfl
theorem zlI {c:UInt8} (h1:65<=c.toNat) (h2:c.toNat<=90):true=zbL c:=by
 unfold zbL zbu;rw [decide_eq_true h1,decide_eq_true h2];simp
theorem zg6 {c:UInt8} (h1:48<=c.toNat) (h2:c.toNat<=57):true=zbL c:=by
 unfold zbL;rw [decide_eq_true h1,decide_eq_true h2];simp
theorem zdx {c:UInt8} (h1:¬ (97<=c.toNat/\c.toNat<=122)) (h2:¬ (65<=c.toNat/\c.toNat<=90)) (h3:¬ (48<=c.toNat/\c.toNat<=57)):decide ((0:Int)<=Lib.indexByte [45,94] c)=zbL c:=by
 rw [zhG];unfold zbL zcs zbu;rw [<- Bool.decide_and,<- Bool.decide_and,<- Bool.decide_and,decide_eq_false h1,decide_eq_false h2,decide_eq_false h3];simp
section
variable {w:World} {s t:Bs}
theorem cut0 (s:Bs) (k:Nat):(bs s).extract 0 k=bs (s.take k):=by rw [zfa,List.drop_zero,Nat.sub_zero]
theorem zlp {a:Nat} (ha:a<65536) (hs:s.length<=140737488351232) (ht:t.length<=140737488351232) (hG:GlobA w) :
  CB 3 #[strV s,.int .u16 (a:Nat),strV t] w (.bool true):=by
 refine cofM 152 [strV s,.int .u16 (a:Nat),strV t] (.s .p (.c .p (.c (.s .p .p) (.c .p (.c (.s .p .p) (.c (.s .p .p) (.c .p (.c (.s .p .p) (.c .p (.s (.b (.l (.s (.c .p .p) (.b .p)))) .p)))))))))) Tryz.func3 ?_;obtain⟨k,hke⟩:=nm (a%(s.length+1));have hk:k<=s.length:=by have:=Nat.mod_lt a (show 0<s.length+1 by omega);omega
 have aw:∀ {X:World},Bw w X->Calls Tryz.prog 9 #[] X fun e w'=>e = .returned (.bool true)/\Bw w w':=fun {X} b=>(zsA (hG.below b)).mono fun e Y h=>⟨h.1,b.trans (h.2.mono b.size)⟩;refine⟨Unit,fun _=>⟨[(0,strV s),(2,strV t),(7,i64 (k:Nat))],[]⟩,fun _ X=>w=X,?_,?_⟩
 ·refine⟨((a:Nat):Int),zai (by omega),?_⟩;refine⟨((s.length+1:Nat):Int),(zai (by have e1:(bs s).size=s.length:=rfl;omega)).trans (by have e1:(bs s).size=s.length:=rfl;omega),?_⟩;refine⟨by omega,_,rfl,?_⟩;exact⟨(),⟨.cons rfl (.cons rfl (.cons (by rw [hke];rfl) .nil)),rfl⟩,rfl⟩
 rintro _ _ rfl;refine⟨Unit,fun _=>⟨[(0,strV s),(2,strV t),(7,i64 (k:Nat))],[]⟩,fun _ X=>w=X/\s.length+t.length<8192,?_,?_⟩
 ·refine⟨((s.length+t.length:Nat):Int),(zai (by have e1:(bs s).size=s.length:=rfl;have e3:(bs t).size=t.length:=rfl;omega)).trans (by have e1:(bs s).size=s.length:=rfl;have e3:(bs t).size=t.length:=rfl;omega),?_⟩;refine biE (fun h=>?_) fun h=>?_
  ·refine cmo (aw (Below.refl _ _)) ?_;rintro e Y ⟨rfl,bY⟩;exact⟨rfl,bY⟩
  ·have h:¬ (8192:Int)<=((s.length+t.length:Nat):Int):=dF h;exact⟨(),(cvE rfl rfl),rfl,by omega⟩
 rintro _ _ ⟨rfl,hl⟩;obtain⟨N,hN⟩:=nm ((zaJ (strC s t k)).2.1);obtain⟨E,hE⟩:=nm ((zaJ (strC s t k)).2.2);refine⟨Unit,fun _=>⟨[(0,strV s),(7,i64 (k:Nat)),(9,i64 (N:Nat)),(10,i64 E)],[]⟩,fun _ X=>Bw w X,?_,?_⟩
 ·have e2:s.take k++[63]++t=strC s t k:=by unfold strC;rw [List.append_assoc];rfl
  have htk:(s.take k).length<=s.length:=(by rw [List.length_take];omega);refine⟨k,rfl,hk,?_⟩;refine⟨strV (s.take k++[63]),fun w=>by rw [cut0];exact zkH _ _ (s.take k) [63] (by show _+1<=_;omega) w,?_⟩;refine⟨strV (strC s t k),fun w=>by rw [<- e2];exact zkH _ _ (s.take k++[63]) t (by rw [lap];show _+1+_<=_;omega) w,?_⟩;refine cmo (zh0 hG.k (strC s t k) (by rw [zhc hk];omega)) ?_;rintro e Y ⟨⟨p,cap,rfl,h40,hM⟩,bY⟩;refine zal (X:=Y) (v := .agg #[.slice p ((zaJ (strC s t k)).1.getD []).length cap]) k26 rfl rfl rfl fun Z hbZ fZ sZ=>?_;exact⟨(),⟨.cons rfl (.cons rfl (.cons (by rw [hN];rfl) (.cons (by rw [hE];rfl) .nil))),rfl⟩,(zst bY hbZ)⟩
 rintro _ X b0;obtain⟨j,hj,hjl,h10⟩:=zqo (s.take k);rw [<- cut0] at hj;have hjk:j<=k:=by rw [List.length_take] at hjl;omega
 have h10:j=0\/s[j-1]?=some 10:=by
  rcases h10 with h | h
  ·exact .inl h
  ·by_cases h0:j=0
   ·exact .inl h0
   ·rw [List.getElem?_take,if_pos (by omega)] at h;exact .inr h
 obtain⟨L,hL⟩:=nm ((s.drop j).take (k-j));have hidx:decide ((0:Int)<=Lib.indexByte ((bs s).extract j k).data.toList ((35:Int).toNat.toUInt8))=decide (35∈L):=by
  rw [zfa,hL];exact zhG _ 35
 have err:35 ∉ L->E≠0/\N<=k:=fun h=>by rw [hN,hE];exact zmx hk hl hjk h10 (by rw [<- hL];exact h)
 have hsz:((bs s).extract 0 k).size<4611686018427387904:=by
  rw [cut0];show (s.take k).length<_;rw [List.length_take];omega
 refine⟨Unit,fun _=>⟨[(0,strV s),(7,i64 (k:Nat)),(9,i64 (N:Nat)),(10,i64 E)],[]⟩,fun _ Y=>X=Y,?_,?_⟩
 ·refine biE (fun h=>?_) fun h=>?_
  ·have h:E=0:=dT h;refine⟨k,rfl,hk,?_⟩;refine cmo (Tryz.strings_LastIndexByte ((bs s).extract 0 k) 10 hsz X) ?_;rintro e Y ⟨rfl,hy⟩;have hy:=hy.symm;subst hy;refine⟨((j:Nat):Int),(zai (by rw [hj];omega)).trans (by rw [hj];omega),?_⟩;refine⟨k,rfl,hk,j,rfl,hjk,?_⟩;refine cmo (Tryz.strings_IndexByte ((bs s).extract j k) 35 X) ?_;rintro e Y ⟨rfl,hy⟩;have hy:=hy.symm;subst hy;refine biE (fun h2=>?_) fun h2=>?_
   ·refine cmo (aw b0) ?_;rintro e Y ⟨rfl,bY⟩;exact⟨rfl,bY⟩
   ·have h2:=dF (hidx.symm.trans h2);exact absurd h (err h2).1
  ·exact⟨(),(cvE rfl rfl),rfl⟩
 rintro _ _ rfl;refine⟨Unit,fun _=>⟨[(0,strV s),(7,i64 (k:Nat)),(9,i64 (N:Nat)),(10,i64 E)],[]⟩,fun _ Y=>X=Y,?_,?_⟩
 ·refine⟨k,rfl,hk,?_⟩;refine cmo (Tryz.strings_LastIndexByte ((bs s).extract 0 k) 10 hsz X) ?_;rintro e Y ⟨rfl,hy⟩;have hy:=hy.symm;subst hy;refine⟨((j:Nat):Int),(zai (by rw [hj];omega)).trans (by rw [hj];omega),?_⟩;refine⟨k,rfl,hk,j,rfl,hjk,?_⟩;refine cmo (Tryz.strings_IndexByte ((bs s).extract j k) 35 X) ?_;rintro e Y ⟨rfl,hy⟩;have hy:=hy.symm;subst hy;refine biE (fun h2=>?_) fun h2=>?_
  ·have h2:Lib.indexByte ((bs s).extract j k).data.toList ((35:Int).toNat.toUInt8)<0:=dT h2;have h3:35 ∉ L:=dF (hidx.symm.trans (decide_eq_false (by omega)));refine biE (fun h4=>?_) fun h4=>?_
   ·have h4:(k:Int)<(N:Int):=dT h4;have:=(err h3).2;omega
   ·exact⟨(),(cvE rfl rfl),rfl⟩
  ·refine brF ?_;exact⟨(),(cvE rfl rfl),rfl⟩
 rintro _ _ rfl;obtain⟨M,hM⟩:=nm ((zaJ s).2.1);obtain⟨F,hF⟩:=nm ((zaJ s).2.2);refine⟨Unit,fun _=>⟨[(0,strV s),(7,i64 (k:Nat)),(9,i64 (N:Nat)),(10,i64 E),(13,i64 (M:Nat)),(14,i64 F)],[]⟩,fun _ X=>Bw w X,?_,?_⟩
 ·refine cmo (zh0 (hG.k.below b0) s hs) ?_;rintro e Y ⟨⟨p,cap,rfl,h40,_⟩,bY⟩;refine zal (X:=Y) (v := .agg #[.slice p ((zaJ s).1.getD []).length cap]) k26 rfl rfl rfl fun Z hbZ fZ sZ=>?_;have b1:=zst b0 bY;exact⟨(),⟨.cons rfl (.cons rfl (.cons rfl (.cons rfl (.cons (by rw [hM];rfl) (.cons (by rw [hF];rfl) .nil))))),rfl⟩,(zst b1 hbZ)⟩
 clear b0 X;rintro _ X b0;refine⟨Unit,fun _=>⟨[(0,strV s),(7,i64 (k:Nat)),(9,i64 (N:Nat)),(10,i64 E),(13,i64 (M:Nat)),(14,i64 F)],[]⟩,fun _ Y=>X=Y/\F≠0/\M<k,?_,?_⟩
 ·refine biE (fun h=>?_) fun h=>?_
  ·refine brT ?_;refine cmo (aw b0) ?_;rintro e Y ⟨rfl,bY⟩;exact⟨rfl,bY⟩
  ·have h:¬ F=0:=dF h;refine biE (fun h2=>?_) fun h2=>?_
   ·refine cmo (aw b0) ?_;rintro e Y ⟨rfl,bY⟩;exact⟨rfl,bY⟩
   ·have h2:¬ (k:Int)<=(M:Int):=dF h2;exact⟨(),(cvE rfl rfl),rfl,h,by omega⟩
 rintro _ _ ⟨rfl,hF0,hMk⟩;refine⟨Unit,fun _=>⟨[(0,strV s),(7,i64 (k:Nat)),(9,i64 (N:Nat)),(10,i64 E),(13,i64 (M:Nat)),(14,i64 F),(15,i64 (M:Nat))],[]⟩,fun _ Y=>X=Y,⟨(),(cvE rfl rfl),rfl⟩,?_⟩;rintro _ _ rfl;refine⟨Nat,fun i=>⟨[(0,strV s),(7,i64 (k:Nat)),(9,i64 (N:Nat)),(10,i64 E),(13,i64 (M:Nat)),(14,i64 F),(15,i64 (i:Nat))],[]⟩,fun i Y=>X=Y/\i<=s.length/\runE zbL s M=runE zbL s i,fun i=>s.length-i,M,(cvE rfl rfl),⟨rfl,by omega,rfl⟩,?_⟩;rintro i _ ⟨rfl,hi,hrun⟩;refine⟨Bool,fun b=>⟨[(132,.bool b),(0,strV s),(7,i64 (k:Nat)),(9,i64 (N:Nat)),(10,i64 E),(13,i64 (M:Nat)),(14,i64 F),(15,i64 (i:Nat))],[]⟩,fun b Y=>X=Y/\b=(decide (i<s.length)&&zbL (s.getD i 0)),?_,?_⟩
 ·refine biE (fun h1=>?_) fun h1=>?_
  ·have h1:(i:Int)<((bs s).size:Int):=dT h1;have e1:(bs s).size=s.length:=rfl;have hil:i<s.length:=by omega
   obtain⟨c,hc⟩:=nm (s[i]);have hcd:s.getD i 0=c:=by rw [gDe,gE hil,hc];rfl
   have hg:(bs s).data.toList[i]?=some c:=by rw [hc];show s[i]?=_;exact gE hil
   rw [hcd,decide_eq_true hil,Bool.true_and];refine⟨i,rfl,hil,c,hg,?_⟩;refine biE (fun hla=>?_) fun hla=>?_
   ·have hla:(97:Int)<=(c.toNat:Int):=dT hla;refine⟨i,rfl,hil,c,hg,?_⟩;refine biE (fun hlb=>?_) fun hlb=>?_
    ·have hlb:(c.toNat:Int)<=122:=dT hlb;refine brT ?_;refine brT ?_;exact⟨true,(cvE rfl rfl),rfl,zpC (by omega) (by omega)⟩
    ·have hlb:¬ (c.toNat:Int)<=122:=dF hlb;have nl:¬ (97<=c.toNat/\c.toNat<=122):=(by omega);refine⟨i,rfl,hil,c,hg,?_⟩;refine biE (fun hua=>?_) fun hua=>?_
     ·have hua:(65:Int)<=(c.toNat:Int):=dT hua;refine⟨i,rfl,hil,c,hg,?_⟩;refine biE (fun hub=>?_) fun hub=>?_
      ·have hub:(c.toNat:Int)<=90:=dT hub;refine brT ?_;exact⟨true,(cvE rfl rfl),rfl,zlI (by omega) (by omega)⟩
      ·have hub:¬ (c.toNat:Int)<=90:=dF hub;have nu:¬ (65<=c.toNat/\c.toNat<=90):=(by omega);refine⟨i,rfl,hil,c,hg,?_⟩;refine biE (fun hda=>?_) fun hda=>?_
       ·have hda:(48:Int)<=(c.toNat:Int):=dT hda;refine⟨i,rfl,hil,c,hg,?_⟩;refine biE (fun hdb=>?_) fun hdb=>?_
        ·have hdb:(c.toNat:Int)<=57:=dT hdb;exact⟨true,(cvE rfl rfl),rfl,zg6 (by omega) (by omega)⟩
        ·have hdb:¬ (c.toNat:Int)<=57:=dF hdb;have nd:¬ (48<=c.toNat/\c.toNat<=57):=(by omega);refine⟨i,rfl,hil,c,hg,?_⟩;refine cmo (Tryz.strings_IndexByte (bs [45,94]) (c.toNat:Int) X) ?_;rintro e Y ⟨rfl,hy⟩;have hy:=hy.symm;subst hy;have ec:((c.toNat:Int).toNat.toUInt8)=c:=(by rw [Int.toNat_natCast];exact UInt8.ofNat_toNat);rw [ec];exact⟨_,(cvE rfl rfl),rfl,zdx nl nu nd⟩
       ·have hda:¬ (48:Int)<=(c.toNat:Int):=dF hda;have nd:¬ (48<=c.toNat/\c.toNat<=57):=(by omega);refine brF ?_;refine⟨i,rfl,hil,c,hg,?_⟩;refine cmo (Tryz.strings_IndexByte (bs [45,94]) (c.toNat:Int) X) ?_;rintro e Y ⟨rfl,hy⟩;have hy:=hy.symm;subst hy;have ec:((c.toNat:Int).toNat.toUInt8)=c:=(by rw [Int.toNat_natCast];exact UInt8.ofNat_toNat);rw [ec];exact⟨_,(cvE rfl rfl),rfl,zdx nl nu nd⟩
     ·have hua:¬ (65:Int)<=(c.toNat:Int):=dF hua;have nu:¬ (65<=c.toNat/\c.toNat<=90):=(by omega);refine brF ?_;refine⟨i,rfl,hil,c,hg,?_⟩;refine biE (fun hda=>?_) fun hda=>?_
      ·have hda:(48:Int)<=(c.toNat:Int):=dT hda;refine⟨i,rfl,hil,c,hg,?_⟩;refine biE (fun hdb=>?_) fun hdb=>?_
       ·have hdb:(c.toNat:Int)<=57:=dT hdb;exact⟨true,(cvE rfl rfl),rfl,zg6 (by omega) (by omega)⟩
       ·have hdb:¬ (c.toNat:Int)<=57:=dF hdb;have nd:¬ (48<=c.toNat/\c.toNat<=57):=(by omega);refine⟨i,rfl,hil,c,hg,?_⟩;refine cmo (Tryz.strings_IndexByte (bs [45,94]) (c.toNat:Int) X) ?_;rintro e Y ⟨rfl,hy⟩;have hy:=hy.symm;subst hy;have ec:((c.toNat:Int).toNat.toUInt8)=c:=(by rw [Int.toNat_natCast];exact UInt8.ofNat_toNat);rw [ec];exact⟨_,(cvE rfl rfl),rfl,zdx nl nu nd⟩
      ·have hda:¬ (48:Int)<=(c.toNat:Int):=dF hda;have nd:¬ (48<=c.toNat/\c.toNat<=57):=(by omega);refine brF ?_;refine⟨i,rfl,hil,c,hg,?_⟩;refine cmo (Tryz.strings_IndexByte (bs [45,94]) (c.toNat:Int) X) ?_;rintro e Y ⟨rfl,hy⟩;have hy:=hy.symm;subst hy;have ec:((c.toNat:Int).toNat.toUInt8)=c:=(by rw [Int.toNat_natCast];exact UInt8.ofNat_toNat);rw [ec];exact⟨_,(cvE rfl rfl),rfl,zdx nl nu nd⟩
   ·have hla:¬ (97:Int)<=(c.toNat:Int):=dF hla;have nl:¬ (97<=c.toNat/\c.toNat<=122):=(by omega);refine brF ?_;refine⟨i,rfl,hil,c,hg,?_⟩;refine biE (fun hua=>?_) fun hua=>?_
    ·have hua:(65:Int)<=(c.toNat:Int):=dT hua;refine⟨i,rfl,hil,c,hg,?_⟩;refine biE (fun hub=>?_) fun hub=>?_
     ·have hub:(c.toNat:Int)<=90:=dT hub;refine brT ?_;exact⟨true,(cvE rfl rfl),rfl,zlI (by omega) (by omega)⟩
     ·have hub:¬ (c.toNat:Int)<=90:=dF hub;have nu:¬ (65<=c.toNat/\c.toNat<=90):=(by omega);refine⟨i,rfl,hil,c,hg,?_⟩;refine biE (fun hda=>?_) fun hda=>?_
      ·have hda:(48:Int)<=(c.toNat:Int):=dT hda;refine⟨i,rfl,hil,c,hg,?_⟩;refine biE (fun hdb=>?_) fun hdb=>?_
       ·have hdb:(c.toNat:Int)<=57:=dT hdb;exact⟨true,(cvE rfl rfl),rfl,zg6 (by omega) (by omega)⟩
       ·have hdb:¬ (c.toNat:Int)<=57:=dF hdb;have nd:¬ (48<=c.toNat/\c.toNat<=57):=(by omega);refine⟨i,rfl,hil,c,hg,?_⟩;refine cmo (Tryz.strings_IndexByte (bs [45,94]) (c.toNat:Int) X) ?_;rintro e Y ⟨rfl,hy⟩;have hy:=hy.symm;subst hy;have ec:((c.toNat:Int).toNat.toUInt8)=c:=(by rw [Int.toNat_natCast];exact UInt8.ofNat_toNat);rw [ec];exact⟨_,(cvE rfl rfl),rfl,zdx nl nu nd⟩
      ·have hda:¬ (48:Int)<=(c.toNat:Int):=dF hda;have nd:¬ (48<=c.toNat/\c.toNat<=57):=(by omega);refine brF ?_;refine⟨i,rfl,hil,c,hg,?_⟩;refine cmo (Tryz.strings_IndexByte (bs [45,94]) (c.toNat:Int) X) ?_;rintro e Y ⟨rfl,hy⟩;have hy:=hy.symm;subst hy;have ec:((c.toNat:Int).toNat.toUInt8)=c:=(by rw [Int.toNat_natCast];exact UInt8.ofNat_toNat);rw [ec];exact⟨_,(cvE rfl rfl),rfl,zdx nl nu nd⟩
    ·have hua:¬ (65:Int)<=(c.toNat:Int):=dF hua;have nu:¬ (65<=c.toNat/\c.toNat<=90):=(by omega);refine brF ?_;refine⟨i,rfl,hil,c,hg,?_⟩;refine biE (fun hda=>?_) fun hda=>?_
     ·have hda:(48:Int)<=(c.toNat:Int):=dT hda;refine⟨i,rfl,hil,c,hg,?_⟩;refine biE (fun hdb=>?_) fun hdb=>?_
      ·have hdb:(c.toNat:Int)<=57:=dT hdb;exact⟨true,(cvE rfl rfl),rfl,zg6 (by omega) (by omega)⟩
      ·have hdb:¬ (c.toNat:Int)<=57:=dF hdb;have nd:¬ (48<=c.toNat/\c.toNat<=57):=(by omega);refine⟨i,rfl,hil,c,hg,?_⟩;refine cmo (Tryz.strings_IndexByte (bs [45,94]) (c.toNat:Int) X) ?_;rintro e Y ⟨rfl,hy⟩;have hy:=hy.symm;subst hy;have ec:((c.toNat:Int).toNat.toUInt8)=c:=(by rw [Int.toNat_natCast];exact UInt8.ofNat_toNat);rw [ec];exact⟨_,(cvE rfl rfl),rfl,zdx nl nu nd⟩
     ·have hda:¬ (48:Int)<=(c.toNat:Int):=dF hda;have nd:¬ (48<=c.toNat/\c.toNat<=57):=(by omega);refine brF ?_;refine⟨i,rfl,hil,c,hg,?_⟩;refine cmo (Tryz.strings_IndexByte (bs [45,94]) (c.toNat:Int) X) ?_;rintro e Y ⟨rfl,hy⟩;have hy:=hy.symm;subst hy;have ec:((c.toNat:Int).toNat.toUInt8)=c:=(by rw [Int.toNat_natCast];exact UInt8.ofNat_toNat);rw [ec];exact⟨_,(cvE rfl rfl),rfl,zdx nl nu nd⟩
  ·have h1:¬ (i:Int)<((bs s).size:Int):=dF h1;have e1:(bs s).size=s.length:=rfl;have hw:(decide (i<s.length)&&zbL (s.getD i 0))=false:=by rw [decide_eq_false (by omega)];rfl
   exact⟨false,(cvE rfl rfl),rfl,hw.symm⟩
 rintro b _ ⟨rfl,hb⟩;refine biE (fun h=>?_) fun h=>?_
 ·have h:b=true:=h;rw [h] at hb;have hb:=hb.symm;rw [bAT,dE] at hb;obtain⟨hil,hw⟩:=hb;rw [gDe,gE hil] at hw;have hw:zbL s[i]=true:=hw;refine nxI (by omega) ?_;exact⟨i+1,(cvE rfl rfl),⟨rfl,hil,by rw [hrun,zc0 hil,if_pos hw]⟩,zdc (by omega)⟩
 ·have h:b=false:=h;rw [h] at hb;have hi2:runE zbL s M=i:=by
   rw [hrun];by_cases hil:i<s.length
   ·rw [decide_eq_true hil,Bool.true_and,gDe,gE hil] at hb;have hb:zbL s[i]=false:=hb.symm;rw [zc0 hil,hb];rfl
   ·exact zes (by omega)
  refine⟨((i+2:Nat):Int),(zai (by omega)).trans (by omega),?_⟩;refine biE (fun h2=>?_) fun h2=>?_
  ·refine brT ?_;refine cmo (aw b0) ?_;rintro e Y ⟨rfl,bY⟩;exact⟨rfl,bY⟩
  ·have h2:¬ (k:Int)<=((i+2:Nat):Int):=dF h2;have same:=zk7 (t:=t) hk hl (by rw [<- hF];exact hF0) (by rw [<- hM,hi2];omega);have hNM:decide ((N:Int)=(M:Int))=true:=decide_eq_true (by rw [hN,hM,same]);have hEF:decide (E=F)=true:=decide_eq_true (by rw [hE,hF,same]);refine And.intro (fun _=>?_) (fun h=>absurd (hNM.symm.trans h) (by decide));refine And.intro (fun _=>?_) (fun h=>absurd (hEF.symm.trans h) (by decide));refine cmo (aw b0) ?_;rintro e Y ⟨rfl,bY⟩;exact⟨rfl,bY⟩
end
end Go.Proofs.YtkpkdmipjinoaaaGreatDoor
namespace Go.Proofs.YtkpkdmipjinoaaaGreatDoor
open Go.Vc Go.RowKit Go.Sei
open Go.ChangeShapes Go.WideShapes Go.ChangeAt
section
variable {H:Type} {enc:TypeId×Value->H} {P:Program} {w:World} {base:Nat} {spare:Nat->Bool} {held:Bool} {fuel:Nat} {t:TypeId} {cs:List Value} {x:DataW H×List MemPlace}
theorem zp8 (ht:P.underlying t=some (.int .u8)) (h:DataW.trod enc P w base spare held fuel t cs=some x):∃ b:UInt8,cs=[u8 b]/\x.1 = .lit (.int .u8 b.toNat):=by
 obtain⟨n,rfl,rfl,hw⟩:=DataW.trod_int ht h;have hb:=bounds_u8 hw;have e:((UInt8.ofNat n.toNat).toNat:Int)=n:=by
  rw [UInt8.toNat_ofNat'];omega
 exact⟨UInt8.ofNat n.toNat,by rw [u8,e],by rw [e]⟩
theorem zhp {n:Nat} {e:TypeId} (ht:P.underlying t=some (.array n e)) (he:P.underlying e=some (.int .u8)) (hc:P.cellsOf e=1) (hn:P.cellsOf t=n)
  (h:DataW.trod enc P w base spare held fuel t cs=some x):∃ bs:List UInt8,bs.length=n/\cs=bs.map u8/\x.1 = .agg (bs.map fun b => .lit (.int .u8 b.toNat)):=by
 obtain⟨xs,m,rfl,rfl,hl,hx,hel⟩:=DataW.trod_array ht h;rw [hn] at hl;have each:∀ i (h:i<n),∃ b:UInt8,cs[i]?=some (u8 b)/\xs[i]?.map (·.1)=some (.lit (.int .u8 b.toNat)):=fun i hi=>by
  have h1:=hel i hi;rw [hc,gE (by omega)] at h1;obtain⟨b,h2,h3⟩:=zp8 he h1;refine⟨b,?_,by rw [gE (by omega),Option.map_some,h3]⟩;have:((cs.drop (i*1)).take 1)[0]?=some (u8 b):=by rw [h2];rfl
  simpa using this
 have:∀ k,k<=n->∃ bs:List UInt8,bs.length=k/\cs.take k=bs.map u8/\(xs.take k).map (·.1)=bs.map fun b => .lit (.int .u8 b.toNat):=by
  intro k
  induction k with
  | zero=>exact fun _=>⟨[],rfl,by simp,by simp⟩
  | succ k ih =>
   intro hk;obtain⟨bs,h1,h2,h3⟩:=ih (by omega);obtain⟨b,h4,h5⟩:=each k (by omega);have hk1:k<cs.length:=by omega
   have hk2:k<xs.length:=by omega
   rw [gE hk1] at h4;rw [gE hk2] at h5;refine⟨bs++[b],by simp [h1],?_,?_⟩
   ·rw [tsg hk1,h2,Option.some.inj h4];simp
   ·rw [tsg hk2,List.map_append,h3];simp at h5;simp [h5]
 obtain⟨bs,h1,h2,h3⟩:=this n (Nat.le_refl _);rw [List.take_of_length_le (by omega)] at h2 h3;exact⟨bs,h1,h2,by rw [<- h3]⟩
theorem zrN (ht:P.underlying t=some (.int .i64)) (h:DataW.trod enc P w base spare held fuel t cs=some x):∃ b:Int,cs=[i64 b]/\x.1 = .lit (.int .i64 b):=by
 obtain⟨n,rfl,rfl,_⟩:=DataW.trod_int ht h;exact⟨n,rfl,rfl⟩
theorem zmF {n:Nat} {e:TypeId} (ht:P.underlying t=some (.array n e)) (he:P.underlying e=some (.int .i64)) (hc:P.cellsOf e=1) (hn:P.cellsOf t=n)
  (h:DataW.trod enc P w base spare held fuel t cs=some x):∃ bs:List Int,bs.length=n/\cs=bs.map i64/\x.1 = .agg (bs.map fun b => .lit (.int .i64 b)):=by
 obtain⟨xs,m,rfl,rfl,hl,hx,hel⟩:=DataW.trod_array ht h;rw [hn] at hl;have each:∀ i (h:i<n),∃ b:Int,cs[i]?=some (i64 b)/\xs[i]?.map (·.1)=some (.lit (.int .i64 b)):=fun i hi=>by
  have h1:=hel i hi;rw [hc,gE (by omega)] at h1;obtain⟨b,h2,h3⟩:=zrN he h1;refine⟨b,?_,by rw [gE (by omega),Option.map_some,h3]⟩;have:((cs.drop (i*1)).take 1)[0]?=some (i64 b):=by rw [h2];rfl
  simpa using this
 have:∀ k,k<=n->∃ bs:List Int,bs.length=k/\cs.take k=bs.map i64/\(xs.take k).map (·.1)=bs.map fun b => .lit (.int .i64 b):=by
  intro k
  induction k with
  | zero=>exact fun _=>⟨[],rfl,by simp,by simp⟩
  | succ k ih =>
   intro hk;obtain⟨bs,h1,h2,h3⟩:=ih (by omega);obtain⟨b,h4,h5⟩:=each k (by omega);have hk1:k<cs.length:=by omega
   have hk2:k<xs.length:=by omega
   rw [gE hk1] at h4;rw [gE hk2] at h5;refine⟨bs++[b],by simp [h1],?_,?_⟩
   ·rw [tsg hk1,h2,Option.some.inj h4];simp
   ·rw [tsg hk2,List.map_append,h3];simp at h5;simp [h5]
 obtain⟨bs,h1,h2,h3⟩:=this n (Nat.le_refl _);rw [List.take_of_length_le (by omega)] at h2 h3;exact⟨bs,h1,h2,by rw [<- h3]⟩
end
theorem zod:ownKnob Tryz.prog.godebug=none:=by kernel_rfl
theorem zdC:laidOutB Tryz.prog=true:=by kernel_rfl
section
variable {H:Type} {enc:TypeId×Value->H} {P:Program} {w:World} {base:Nat} {spare:Nat->Bool} {held:Bool} {fuel:Nat} {t e:TypeId} {cs:List Value} {x:DataW H×List MemPlace}
def Opens (enc:TypeId×Value->H) (P:Program) (w:World) (base:Nat) (spare:Nat->Bool) (held:Bool) (t:TypeId) (R:List Value->Prop):Prop :=
 ∀ fuel cs x,DataW.trod enc P w base spare held fuel t cs=some x->R cs
theorem Opens.field {fs:Array Field} {R:List Value->Prop} {i:Nat} {f:Field} {n:Nat} {xs:List (DataW H×List MemPlace)} {m:Nat} (hel:∀ (i:Nat) (f:Field),fs[i]?=some f->DataW.trod enc P w base spare held m f.type ((cs.drop f.offset).take (P.cellsOf f.type))=xs[i]?)
  (hl:xs.length=fs.size) (hi:fs[i]?=some f) {o:Nat} (hoo:f.offset=o) (hn:P.cellsOf f.type=n) (ho:Opens enc P w base spare held f.type R):R ((cs.drop o).take n):=by
 subst hoo;have h1:=hel i f hi;have:i<fs.size:=(Array.getElem?_eq_some_iff.1 hi).1;rw [gE (by omega),hn] at h1;exact ho _ _ _ h1
theorem cut (cs:List Value) (o n o':Nat) (h:o+n=o'):cs.drop o=(cs.drop o).take n++cs.drop o':=by
 rw [<- h,<- List.drop_drop,List.take_append_drop]
end
theorem cC (t n:Nat) (h:Tryz.prog.cellsOf t=n):Tryz.prog.cellsOf t=n:=h
theorem zeV {H:Type} {enc:TypeId×Value->H} {a:Assume} {C:Checked} {os:Os} {f:FuncId} {fn:Func} {s:ChangeSpec} {conds:List PathCond} {apart fresh handsOn again:Bool} {X:World->Array Value->Prop}
  (hX:∀ (w w':World) (args:Array Value),w.heap=w'.heap->X w args->X w' args)
  (own:ownKnob C.prog.godebug=none) (started:os.Started) (noInit:C.prog.inits.idxOf? f=none) (hfn:C.prog.funcs[f]?=some fn)
  (witness:∃ (w:World) (tape:Tape) (i:Input),w.os=os/\(w.forCall tape i).Shaped C.prog/\i.vars=[]/\Input.okWide C.prog (w.forCall tape i) .any w.heap.size f i /\
   ((s.pre enc C.prog fn conds apart (w.forCall tape i).memory i.args/\X (w.forCall tape i).memory i.args)/\sizedMet enc C.prog fn (OpenSpec.ofChange s) apart (w.forCall tape i).memory i.args)/\a.holds C.prog (lone (Frame.enter C.prog f i.args .normal) [] (w.forCall tape i)))
  (contract:∀ (W:World) (base:Nat) (args:Array Value) (ds gs:List (DataW H)) (before:List MemPlace),
   (∀ (j:Nat) t v,fn.params[j]?=some t->args[j]?=some v->Value.okWide C.prog W .any base t v) ->
   DataW.Whole enc C.prog fn.params.toList s.vars apart W args.toList ds gs before->X W args->W.ShapedOpen C.prog ->
   (∃ ds gs before,DataW.Whole enc C.prog fn.params.toList (OpenSpec.ofChange s).vars apart W args.toList ds gs before/\∀ n∈DataW.weightsEach C.prog (fn.params.toList++(OpenSpec.ofChange s).bare.plain.varTypes C.prog) (ds++gs),n<=reachBytes) ->
   Calls C.prog f args W fun e W'=>∃ v,e = .returned v/\s.post enc C.prog fn apart fresh handsOn again W args v W') :
  ReturnsInHanded a C os f .any (fun w args=>(s.pre enc C.prog fn conds apart w args/\X w args)/\sizedMet enc C.prog fn (OpenSpec.ofChange s) apart w args) (s.post enc C.prog fn apart fresh handsOn again):=by
 refine returnsInHanded_of_calls own started noInit witness ?_;intro w tape i _ hsh _ hok hpre hholds;obtain⟨_,_,_,fn',hfn',_,_,_,_,hval⟩:=hok;have e:fn'=fn:=Option.some.inj (hfn'.symm.trans hfn);subst e;obtain⟨⟨⟨ds,gs,before,hw,hc⟩,hx⟩,hz⟩:=hpre;have hw':=DataW.Whole.of_heap (w':=w.forCall tape i) (by rfl) hw;obtain⟨_,ds2,gs2,before2,hw2,hall⟩:=hz;refine (contract (w.forCall tape i) w.heap.size i.args ds gs before hval hw' (hX _ _ _ (by rfl) hx) hsh ⟨ds2,gs2,before2,DataW.Whole.of_heap (w':=w.forCall tape i) (by rfl) hw2,fun n hn=>dT (List.all_eq_true.1 hall n hn)⟩).mono fun e W' ⟨v,he,hp⟩=>?_;subst he;exact ChangeSpec.post_blind hp
theorem zhC {H:Type}:∀ {a b:List UInt8},a.map (fun b=>(DataW.lit (.int .u8 b.toNat):DataW H))=b.map (fun b=>DataW.lit (.int .u8 b.toNat))->a=b
 | [],[],_=>rfl
 | [],_::_,h=>by cases h
 | _::_,[],h=>by cases h
 | x::a,y::b,h=>by
  simp only [List.map_cons,List.cons.injEq,DataW.lit.injEq,Lit.int.injEq,true_and] at h;rw [zhC h.2,UInt8.toNat_inj.1 (by omega:x.toNat=y.toNat)]
set_option linter.unusedSectionVars false
section
variable {H:Type} {enc:TypeId×Value->H} {P:Program} {w:World} {base:Nat} {spare:Nat->Bool} {held:Bool} {fuel:Nat} {t:TypeId} {cs:List Value} {x:DataW H×List MemPlace}
theorem zgK {n:Nat} {e:TypeId} (ht:P.underlying t=some (.array n e)) (he:P.underlying e=some .string) (hc:P.cellsOf e=1) (hn:P.cellsOf t=n)
  (h:DataW.trod enc P w base spare held fuel t cs=some x):∃ ls:List (List UInt8),ls.length=n/\cs=ls.map strV/\x.1 = .agg (ls.map fun b => .lit (.string b)):=by
 obtain⟨xs,m,rfl,rfl,hl,hx,hel⟩:=DataW.trod_array ht h;rw [hn] at hl;have each:∀ i (h:i<n),∃ b:List UInt8,cs[i]?=some (strV b)/\xs[i]?.map (·.1)=some (.lit (.string b)):=fun i hi=>by
  have h1:=hel i hi;rw [hc,gE (by omega)] at h1;obtain⟨s,h2,h3,_⟩:=DataW.trod_string he h1;have es:Value.string s=strV s.data.toList:=by unfold strV bs;cases s;rfl
  refine⟨s.data.toList,?_,by rw [gE (by omega),Option.map_some,h3]⟩;have:((cs.drop (i*1)).take 1)[0]?=some (strV s.data.toList):=by rw [h2,es];rfl
  simpa using this
 have:∀ k,k<=n->∃ ls:List (List UInt8),ls.length=k/\cs.take k=ls.map strV/\(xs.take k).map (·.1)=ls.map fun b => .lit (.string b):=by
  intro k
  induction k with
  | zero=>exact fun _=>⟨[],rfl,by simp,by simp⟩
  | succ k ih =>
   intro hk;obtain⟨ls,h1,h2,h3⟩:=ih (by omega);obtain⟨b,h4,h5⟩:=each k (by omega);have hk1:k<cs.length:=by omega
   have hk2:k<xs.length:=by omega
   rw [gE hk1] at h4;rw [gE hk2] at h5;refine⟨ls++[b],by simp [h1],?_,?_⟩
   ·rw [tsg hk1,h2,Option.some.inj h4];simp
   ·rw [tsg hk2,List.map_append,h3];simp at h5;simp [h5]
 obtain⟨ls,h1,h2,h3⟩:=this n (Nat.le_refl _);rw [List.take_of_length_le (by omega)] at h2 h3;exact⟨ls,h1,h2,by rw [<- h3]⟩
theorem zha:∀ {a b:List (List UInt8)},(a.map fun b=>(DataW.lit (.string b):DataW Unit))=(b.map fun b => .lit (.string b))->a=b
 | [],[],_=>rfl
 | [],_::_,h=>by cases h
 | _::_,[],h=>by cases h
 | x::r,y::t,h=>by
  simp only [List.map_cons,List.cons.injEq,DataW.lit.injEq,Lit.string.injEq] at h;rw [h.1,zha h.2]
def strZ:List Int:=[0,0,1,2,3,4,0,0,0,0]
theorem zix {r:Reach} {base':Nat} {v:Value} {d:DataW H} {p:List MemPlace} (ht:P.underlying t=some .string) (hok:Value.okWide P w r base' t v) (h:DataW.Trod enc P w base spare held t v d p) (hw:∀ n∈DataW.weights P t d,n<=reachBytes):∃ s:List UInt8,v=strV s/\s.length<=140737488351232:=by
 unfold Value.okWide at hok;rw [ht] at hok
 cases v with
 | string s0 =>
  obtain⟨fuel,h⟩:=h;obtain⟨s,h2,h3,_⟩:=DataW.trod_string ht h;have h2:[Value.string s0]=[Value.string s]:=h2;simp only [List.cons.injEq,Value.string.injEq,and_true] at h2;subst h2;have h3:d = .lit (.string s0.data.toList):=congrArg Prod.fst h3;refine⟨s0.data.toList,by unfold strV bs;cases s0;rfl,hw _ ?_⟩;rw [h3];simp only [DataW.weights,List.mem_singleton]
 | _=>simp_all [Cell.okWide,Cell.ok]
theorem zot {r:Reach} {v:Value} (ht:P.underlying t=some (.int .u16)) (h:Value.okWide P w r base t v):∃ a:Nat,a<65536/\v = .int .u16 (a:Nat):=by
 unfold Value.okWide at h;rw [ht] at h
 cases v with
 | int k n =>
  have h1:k = .u16/\IntKind.has .u16 n:=by
   simp only [Cell.okWide,Cell.ok,ht] at h;obtain⟨rfl,h⟩:=h;exact⟨rfl,h⟩
  obtain⟨rfl,h2⟩:=h1;have h3:0<=n/\n<=65535:=⟨by have:=h2.1;simpa [IntKind.min,IntKind.signed,IntKind.bits] using this,by have:=h2.2;simpa [IntKind.max,IntKind.signed,IntKind.bits] using this⟩;exact⟨n.toNat,by omega,by rw [Int.toNat_of_nonneg h3.1]⟩
 | _=>simp_all [Cell.okWide,Cell.ok]
theorem zoN {W:World} (h1:zav W ⟨4,0,none⟩ (za2.map strV)) (h2:zav W ⟨2,0,none⟩ (strZ.map i64)) (h3:zav W ⟨3,0,none⟩ (zb1.map strV)) (h4:zav W ⟨1,0,none⟩ (zht.map i64)) (h5:GlobC W) (h6:Tz64M W) (h7:Tz32M W):GlobA W:=by
 refine⟨⟨h1,h2,h3,h4,?_⟩,⟨h5,h6,h7⟩⟩;have h0:=h1 0 _ rfl;unfold World.cell? at h0
 split at h0
 ·rename_i hb;exact hlt hb
 ·cases h0
end
structure GlobL11 (W:World):Prop where
 t32:Tz32M W
 t64:Tz64M W
 needs:GlobC W
 cnd:zav W ⟨1,0,none⟩ (zht.map i64)
 cst:zav W ⟨2,0,none⟩ (strZ.map i64)
 csg:zav W ⟨3,0,none⟩ (zb1.map strV)
 cop:zav W ⟨4,0,none⟩ (za2.map strV)
abbrev zbT : List (String × DataW Unit) := [("math/bits.deBruijn32tab", Rows.laid_math_bits_deBruijn32tab), ("math/bits.deBruijn64tab", Rows.laid_math_bits_deBruijn64tab), ("seisin/check.needs", Rows.laid_seisin_check_needs), ("seisin/cat.needs", Rows.laid_seisin_cat_needs), ("seisin/cat.strength", Rows.laid_seisin_cat_strength), ("seisin/cat.signs", Rows.laid_seisin_cat_signs), ("seisin/cat.openers", Rows.laid_seisin_cat_openers)]
theorem za1 {W:World} (h:laidMetH Tryz.prog zbT W) (hsh:W.ShapedOpen Tryz.prog):GlobL11 W:=by
 have h0:laidMet Tryz.prog zbT W:=h;have h1:=h0.tail;have h2:=h1.tail;have h3:=h2.tail;have h4:=h3.tail;have h5:=h4.tail;have h6:=h5.tail;have t32:Tz32M W:=by
  obtain⟨ps,⟨g',t',cs,fuel,p,q,hg',ht',hv,hd,_,_⟩,_⟩:=h0
  obtain rfl := Option.some.inj ((show Tryz.prog.globalNamed "math/bits.deBruijn32tab" = some 7 by kernel_rfl).symm.trans hg')
  obtain rfl:=Option.some.inj ((show (Tryz.prog.globals[7]?).map (·.type)=some 392 by kernel_rfl).symm.trans ht');obtain⟨bs,h1,h2,h3⟩:=zhp Tryz.underlying392 Tryz.underlying5 (by kernel_rfl) (by kernel_rfl) hd;have hbs:bs=zkR:=by
   have e:(Rows.laid_math_bits_deBruijn32tab:DataW Unit) = .agg (zkR.map fun b => .lit (.int .u8 b.toNat)):=rfl;exact zhC (DataW.agg.inj (h3.symm.trans e))
  subst hbs;refine zbg fun i v hvv=>?_;have hc:=World.var?_cell hg' hv i;rw [<- hvv,<- h2];simpa using hc
 have t64:Tz64M W:=by
  obtain⟨ps,⟨g',t',cs,fuel,p,q,hg',ht',hv,hd,_,_⟩,_⟩:=h1
  obtain rfl := Option.some.inj ((show Tryz.prog.globalNamed "math/bits.deBruijn64tab" = some 5 by kernel_rfl).symm.trans hg')
  obtain rfl:=Option.some.inj ((show (Tryz.prog.globals[5]?).map (·.type)=some 328 by kernel_rfl).symm.trans ht');obtain⟨bs,h1,h2,h3⟩:=zhp Tryz.underlying328 Tryz.underlying5 (by kernel_rfl) (by kernel_rfl) hd;have hbs:bs=zkQ:=by
   have e:(Rows.laid_math_bits_deBruijn64tab:DataW Unit) = .agg (zkQ.map fun b => .lit (.int .u8 b.toNat)):=rfl;exact zhC (DataW.agg.inj (h3.symm.trans e))
  subst hbs;refine zbg fun i v hvv=>?_;have hc:=World.var?_cell hg' hv i;rw [<- hvv,<- h2];simpa using hc
 have needs:GlobC W:=by
  obtain⟨ps,⟨g',t',cs,fuel,p,q,hg',ht',hv,hd,_,_⟩,_⟩:=h2
  obtain rfl := Option.some.inj ((show Tryz.prog.globalNamed "seisin/check.needs" = some 6 by kernel_rfl).symm.trans hg')
  obtain rfl:=Option.some.inj ((show (Tryz.prog.globals[6]?).map (·.type)=some 382 by kernel_rfl).symm.trans ht');obtain⟨bs,h1,h2,h3⟩:=zhp Tryz.underlying382 Tryz.underlying5 (by kernel_rfl) (by kernel_rfl) hd;have hbs:bs=zhu:=by
   match bs,h1 with
   | [b0,b1,b2,b3,b4,b5,b6,b7,b8],_ =>
    simp only [Rows.laid_seisin_check_needs,List.map_cons,List.map_nil,DataW.agg.injEq,List.cons.injEq,DataW.lit.injEq,Lit.int.injEq,true_and,and_true] at h3;simp only [zhu,List.cons.injEq,and_true];obtain⟨a0,a1,a2,a3,a4,a5,a6,a7,a8⟩:=h3;refine⟨?_,?_,?_,?_,?_,?_,?_,?_,?_⟩ <;> (apply UInt8.toNat_inj.1;simp;omega)
  subst hbs;refine zbg fun i v hvv=>?_;have hc:=World.var?_cell hg' hv i;rw [<- hvv,<- h2];simpa using hc
 have cnd:zav W ⟨1,0,none⟩ (zht.map i64):=by
  obtain⟨ps,⟨g',t',cs,fuel,p,q,hg',ht',hv,hd,_,_⟩,_⟩:=h3
  obtain rfl := Option.some.inj ((show Tryz.prog.globalNamed "seisin/cat.needs" = some 1 by kernel_rfl).symm.trans hg')
  obtain rfl:=Option.some.inj ((show (Tryz.prog.globals[1]?).map (·.type)=some 195 by kernel_rfl).symm.trans ht');obtain⟨bs,h1,h2,h3⟩:=zmF Tryz.underlying195 Tryz.underlying3 (by kernel_rfl) (by kernel_rfl) hd;have hbs:bs=zht:=by
   match bs,h1 with
   | [b0,b1,b2,b3,b4,b5,b6,b7,b8,b9],_ =>
    simp only [Rows.laid_seisin_cat_needs,List.map_cons,List.map_nil,DataW.agg.injEq,List.cons.injEq,DataW.lit.injEq,Lit.int.injEq,true_and,and_true] at h3;simp only [zht,List.cons.injEq,and_true];obtain⟨a0,a1,a2,a3,a4,a5,a6,a7,a8,a9⟩:=h3;exact⟨a0.symm,a1.symm,a2.symm,a3.symm,a4.symm,a5.symm,a6.symm,a7.symm,a8.symm,a9.symm⟩
  subst hbs;refine zbg fun i v hvv=>?_;have hc:=World.var?_cell hg' hv i;rw [<- hvv,<- h2];simpa using hc
 have cst:zav W ⟨2,0,none⟩ (strZ.map i64):=by
  obtain⟨ps,⟨g',t',cs,fuel,p,q,hg',ht',hv,hd,_,_⟩,_⟩:=h4
  obtain rfl := Option.some.inj ((show Tryz.prog.globalNamed "seisin/cat.strength" = some 2 by kernel_rfl).symm.trans hg')
  obtain rfl:=Option.some.inj ((show (Tryz.prog.globals[2]?).map (·.type)=some 195 by kernel_rfl).symm.trans ht');obtain⟨bs,h1,h2,h3⟩:=zmF Tryz.underlying195 Tryz.underlying3 (by kernel_rfl) (by kernel_rfl) hd;have hbs:bs=strZ:=by
   match bs,h1 with
   | [b0,b1,b2,b3,b4,b5,b6,b7,b8,b9],_ =>
    simp only [Rows.laid_seisin_cat_strength,List.map_cons,List.map_nil,DataW.agg.injEq,List.cons.injEq,DataW.lit.injEq,Lit.int.injEq,true_and,and_true] at h3;simp only [strZ,List.cons.injEq,and_true];obtain⟨a0,a1,a2,a3,a4,a5,a6,a7,a8,a9⟩:=h3;exact⟨a0.symm,a1.symm,a2.symm,a3.symm,a4.symm,a5.symm,a6.symm,a7.symm,a8.symm,a9.symm⟩
  subst hbs;refine zbg fun i v hvv=>?_;have hc:=World.var?_cell hg' hv i;rw [<- hvv,<- h2];simpa using hc
 have csg:zav W ⟨3,0,none⟩ (zb1.map strV):=by
  obtain⟨ps,⟨g',t',cs,fuel,p,q,hg',ht',hv,hd,_,_⟩,_⟩:=h5
  obtain rfl := Option.some.inj ((show Tryz.prog.globalNamed "seisin/cat.signs" = some 3 by kernel_rfl).symm.trans hg')
  obtain rfl:=Option.some.inj ((show (Tryz.prog.globals[3]?).map (·.type)=some 199 by kernel_rfl).symm.trans ht');obtain⟨bs,h1,h2,h3⟩:=zgK Tryz.underlying199 Tryz.underlying9 (by kernel_rfl) (by kernel_rfl) hd;have hbs:bs=zb1:=zha (DataW.agg.inj ((show (DataW.agg (zb1.map fun b => .lit (.string b)):DataW Unit)=_ from h3).symm.trans rfl).symm) |>.symm;subst hbs;refine zbg fun i v hvv=>?_;have hc:=World.var?_cell hg' hv i;rw [<- hvv,<- h2];simpa using hc
 have cop:zav W ⟨4,0,none⟩ (za2.map strV):=by
  obtain⟨ps,⟨g',t',cs,fuel,p,q,hg',ht',hv,hd,_,_⟩,_⟩:=h6
  obtain rfl := Option.some.inj ((show Tryz.prog.globalNamed "seisin/cat.openers" = some 4 by kernel_rfl).symm.trans hg')
  obtain rfl:=Option.some.inj ((show (Tryz.prog.globals[4]?).map (·.type)=some 75 by kernel_rfl).symm.trans ht');obtain⟨bs,h1,h2,h3⟩:=zgK Tryz.underlying75 Tryz.underlying9 (by kernel_rfl) (by kernel_rfl) hd;have hbs:bs=za2:=zha (DataW.agg.inj ((show (DataW.agg (za2.map fun b => .lit (.string b)):DataW Unit)=_ from h3).symm.trans rfl).symm) |>.symm;subst hbs;refine zbg fun i v hvv=>?_;have hc:=World.var?_cell hg' hv i;rw [<- hvv,<- h2];simpa using hc
 exact⟨t32,t64,needs,cnd,cst,csg,cop⟩
def zmS:DataW Unit->List Value
 | .lit (.int k n)=>[.int k n]
 | .lit (.string s)=>[.string ⟨s.toArray⟩]
 | _=>[]
def zej:DataW Unit->List Value
 | .agg ps=>ps.flatMap zmS
 | x=>zmS x
def zee (h:Array Obj) (g:Nat) (cs:List Value):Array Obj:=h.modify g fun
 | .cells _ t frozen => .cells cs.toArray t frozen
 | o=>o
def zqn (h:Array Obj):Array Obj :=
 let h1:=zee h 7 (zej Rows.laid_math_bits_deBruijn32tab)
 let h2:=zee h1 5 (zej Rows.laid_math_bits_deBruijn64tab)
 let h3:=zee h2 6 (zej Rows.laid_seisin_check_needs)
 let h4:=zee h3 1 (zej Rows.laid_seisin_cat_needs)
 let h5:=zee h4 2 (zej Rows.laid_seisin_cat_strength)
 let h6:=zee h5 3 (zej Rows.laid_seisin_cat_signs)
 zee h6 4 (zej Rows.laid_seisin_cat_openers)
noncomputable def zfe (os:Os):World :=
 { World.holding Tryz.prog os ⟨#[],#[],[]⟩ with heap:=zqn (World.holding Tryz.prog os ⟨#[],#[],[]⟩).heap }
theorem zfl (os:Os) (args:Array Value):laidMetH Tryz.prog zbT ((zfe os).forCall (fun _ _=>0) ⟨#[],args,[]⟩).memory:=by
 show laidMet Tryz.prog zbT _;exact laidMet_of_run' 8 (by kernel_rfl) (by kernel_rfl)
end Go.Proofs.YtkpkdmipjinoaaaGreatDoor
