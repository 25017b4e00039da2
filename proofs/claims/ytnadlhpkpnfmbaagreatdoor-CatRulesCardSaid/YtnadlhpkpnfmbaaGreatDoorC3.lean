/- Contracts of functions, and plain facts, for the law that the last text of this claim proves. -/
import Derived.Test.YtnadlhpkpnfmbaaGreatDoorC2
import Derived.Test.YtnadlhpkpnfmbaaGreatDoorC1
import Derived.Laws.StructEq
import Derived.ChangeKeysEq
set_option linter.unusedSimpArgs false
set_option linter.unusedVariables false
namespace Go.Proofs.YtnadlhpkpnfmbaaGreatDoor
open Go.Vc Go.RowKit Go.Sei
section
variable {r:RelD}
theorem zve {bx:Nat} {W0:Wd} (hr:zE r.to) (hn:r.n<=48) (fx:zG W0 bx r) (hT:Tz64M W0) :
  ziB PG 268 [At0 bx] (zde r) W0 (fun k=>k=bx\/k=4) (fun _=>False) StO:=by
 intro yl F0 J Jx W hsz hrd hrf hJ hJx hy h0;have fxW:zG W bx r:=(hrd bx (.inl (.inl rfl))).trans fx;have hTW:Tz64M W:=zae hT (hrd _ (.inl (.inr rfl)));refine zI 17 [.func (.yield yl) #[] #[],At0 bx] Tryz.func268 ?_;refine⟨zf r,zd _,za fxW,hlt fxW,cmo (ziE hr hTW) ?_⟩;rintro e X ⟨rfl,hbX⟩;refine biE (fun h=>?_) fun h=>?_
 ·have h:zjj r=false:=by
   have h:(!zjj r)=true:=h;simpa using h
  have hs:zde r=[]:=by unfold zde;rw [h];rfl
  rw [hs];exact⟨⟨_,rfl⟩,.inl ⟨F0,hJ.step _ _ _ _ h0 (.below hbX)⟩⟩
 have h:zjj r=true:=by
  have h:(!zjj r)=false:=h;simpa using h
 have hs:zde r=zcz (qp r).to 64 (jb r.n) []:=by unfold zde;rw [h];rfl
 rw [hs] at hy ⊢;refine⟨zf r,zd _,za (zb hbX fxW),hlt (zb hbX fxW),cmo (zet hr (hTW.below hbX)) ?_⟩;rintro e Y ⟨rfl,hbY,hrB⟩;have hbXY:=zst hbX hbY;refine zl (X:=Y) (v := .agg (zf (qp r)).toArray) k30 (zd _) (by kernel_rfl) (zB _) fun V hbV fV sV=>?_;have hbV2:=zst hbXY hbV;have fxV:=zb hbV2 fxW;have hTV:=hTW.below hbV2;have hok:okR r=true:=by
  unfold zjj zfk at h
  split at h
  ·assumption
  ·simp at h
 obtain⟨p0,p48,_⟩:=qy hok;obtain⟨n,hnn⟩:∃ n:Nat,r.n=n:=⟨r.n.toNat,by omega⟩;have hn48:n<=48:=by omega
 have hal:els (jk n)=List.range n:=zjc (by omega);have wY:=hbXY.size;have hbVF:¬ F0 Y.heap.size:=fun h=>by have:=(hJ.lt _ _ _ _ h0 h).1;omega
 have htl:=zaf hTW;have hJn:JG W.heap.size (fun _=>False) (fun pre F Z=>J pre F Z/\W.heap.size<=Z.heap.size):=⟨fun s F A B ⟨h,hn⟩ hs=>⟨hJ.step _ _ _ _ h hs,UX hn hs.size⟩,fun s F A k ⟨h,_⟩ hk=>hJ.lt _ _ _ _ h hk⟩;have hal2:jb r.n=jk n:=by rw [zcl,hnn]
 have main:∀ Z:Wd,OwnS zC 3 V.heap.size Z (some ⟨V.heap.size,0,none⟩) n []->Bw V Z->Calls PG 269 #[At0 Y.heap.size,s64 (jk n),.slice (some ⟨V.heap.size,0,none⟩) 0 n,.func (.yield yl) #[] #[]] Z fun e Y2=>(∃ v,e = .returned v)/\((∃ F',J (zcz (qp r).to 64 (jb r.n) []) F' Y2)\/∃ pre F',pre <+: zcz (qp r).to 64 (jb r.n) []/\Jx pre F' Y2):=by
  intro Z oZ hbZ;have hbWZ:Bw W Z:=zst hbV2 hbZ;refine cmo (zpP (l:=[]) (J:=fun pre F Z=>J pre F Z/\W.heap.size<=Z.heap.size) (Jx:=Jx) (n0:=W.heap.size) (n:=n) (bB:=Y.heap.size) (r:=qp r) (xs:=zcz (qp r).to 64 (jb r.n) []) hJn (fun _ _ _ h=>h.2) (fun pre x vs F W1 ⟨hj,hn⟩ hst hpre=>YieldR.mono (hy pre x vs F W1 hj hst hpre) fun v W2 h=>?_) hrB hn48 htl 64 (jk n) V.heap.size [] F0 Z (zdQ _) (qS _) (fun i hi=>by
   rw [hal] at hi;have:=Ut.1 hi;omega) (by rw [hal];simp) (oZ.lower hbV2.size) (fun h=>?_) ⟨hJ.step _ _ _ _ h0 (.below hbWZ),hbWZ.size⟩ (zb hbZ fV) hbVF wY (by omega) (hTV.below hbZ) (hrf _ (.inr rfl)) (by rw [hal2];exact List.prefix_refl _)) ?_
  ·rcases h with ⟨rfl,F',h1,h2⟩ | h
   ·exact .inl ⟨rfl,F',⟨h1,UX hn h2.size⟩,h2⟩
   ·exact .inr h
  ·have:=(hJ.lt _ _ _ _ h0 h).1;have:=hbV2.size;omega
  ·rintro e Y2 (⟨rfl,F',⟨hj,_⟩,_⟩ | ⟨rfl,pre',F',h1,h2⟩)
   ·rw [hal2];exact⟨⟨_,rfl⟩,.inl ⟨F',hj⟩⟩
   ·exact⟨⟨_,rfl⟩,.inr ⟨pre',F',h1,h2⟩⟩
 refine DrawE.treeQ [7] (.op 0 (.op 1 (.op 3 (.op 4 (.op 6 (.alt (.op 2 (.op 5 (.op 7 .nil))) (.op 5 (.op 2 (.op 7 .nil))))))))) (by kernel_rfl) ⟨i64 n,by rw [<- hnn];exact zc (za fxV) (i:=0) rfl,i64 n,by rw [<- hnn];exact zc (za fxV) (i:=0) rfl,Gs ?_ ?_⟩
 ·refine cmo zd0 ?_;rintro e _ ⟨rfl,rfl⟩;refine⟨Gm _ _,zdq (E:=zC) Tryz.underlying128 k3 rfl rfl rfl n (by show 8*n<=_;omega) (by unfold maxLen;omega) fun Z oZ hbZ sZ=>⟨hbZ,cmo (main Z oZ (((Gm _ V).drew).trans hbZ)) ?_⟩⟩;rintro e Y2 ⟨⟨v,rfl⟩,h⟩;exact⟨⟨_,rfl⟩,h⟩
 ·refine zdq (E:=zC) Tryz.underlying128 k3 rfl rfl rfl n (by show 8*n<=_;omega) (by unfold maxLen;omega) fun Z oZ hbZ sZ=>⟨hbZ,cmo zd0 ?_⟩;rintro e _ ⟨rfl,rfl⟩;refine⟨Gm _ _,cmo (main Z oZ (((Gm _ V).drew).trans hbZ)) ?_⟩;rintro e Y2 ⟨⟨v,rfl⟩,h⟩;exact⟨⟨_,rfl⟩,h⟩
theorem ztX {w:Wd}:Calls PG 233 #[.agg (zf r).toArray] w fun e w'=>e = .returned (.func (.func 268) #[] #[At0 w.heap.size])/\zG w' w.heap.size r/\w'.heap.size=w.heap.size+1/\Bw w w':=by
 refine zI 4 [.agg (zf r).toArray] Tryz.func233 ?_;exact⟨rfl,zt w _,wz _ _,(zba w _)⟩
theorem zoq {b:Nat} {m:Nat} {w:Wd} (hr:zE r.to) (fb:zG w b r):CB 232 #[At0 b,i64 m] w (.bool (decide (m<=10000)&&okR r)):=by
 refine zI 17 [At0 b,i64 m] Tryz.func232 ?_;refine biE (fun h=>?_) fun h=>?_
 ·refine biE (fun h2=>?_) fun h2=>?_
  ·have h2:(m:Int)<=10000:=dT h2;refine⟨zf r,zd _,za fb,hlt fb,cmo (qA hr) ?_⟩;rintro e Y ⟨rfl,hbY⟩;exact⟨rb (by rw [Ux (show m<=10000 by omega),UD]),hbY⟩
  ·have h2:¬ (m:Int)<=10000:=dF h2;exact⟨rb (by rw [Ul (show ¬ m<=10000 by omega),Un]),Gm _ _⟩
 ·have h:¬ (0:Int)<=m:=dF h;omega
end
def q6:Enc (List Nat×OA×Nat) where
 sz:=1
 enc x:=[.slice x.2.1 x.1.length x.2.2]
 len x:=rfl
 one x v hv:=by
  simp at hv;subst hv;rfl
 pos:=by decide
theorem zqC {p:OA} {cap:Nat} {l:List Nat} {w:Wd} (hl:SlR zC w p l) (hn:l.length<=100000) (hc:p=none->cap=0) :
  Calls PG 234 #[.slice p l.length cap] w fun e w'=>(∃ q c,e = .returned (.slice q l.length c)/\OwnS zC 3 w.heap.size w' q c l)/\Bw w w':=by
 refine zI 8 [.slice p l.length cap] Tryz.func234 ?_;refine⟨_,fun w=>ztz Tryz.underlying128 _ _ p l.length cap w,?_⟩
 cases p with
 | none =>
  refine brT ?_;have e:=hl.none;subst e;exact⟨⟨none,0,rfl,OwnS.nil⟩,Gm _ _⟩
 | some a =>
  refine brF ⟨⟨by decide,by decide,rfl⟩,[],rfl,?_⟩;have hb0:Bw w (w.alloc (.cells #[] 3)):=zba w _;refine zgt (E:=zC) (T:=3) (B:=w.heap.size) (l:=[]) (news:=l) (cap:=0) Tryz.underlying128 k3 rfl rfl rfl zgL rfl (hl.below hb0) (fun h=>by cases h) hb0.size (by simp;omega) (by show (0+l.length)*8<=_;omega) ?_;intro p' cap' w' ho hg hbw;exact⟨⟨p',cap',rfl,ho⟩,hb0.trans hbw⟩
def zt4 (B:Nat) (F:Nat->Prop) (Y:Wd) (x:List Nat×OA×Nat):Prop:=OwnS zC 3 B Y x.2.1 x.2.2 x.1/\∀ a,x.2.1=some a->F a.block
theorem zfy (B:Nat):ziA 128 170 (zt4 B):=by
 rintro F G Y Z x ⟨h1,h2⟩ hs hFG;refine⟨h1.same fun a ha=>?_,fun a ha=>hFG _ (h2 a ha)⟩;obtain⟨_,_,cur,hc⟩:=zy h1 ha;exact hs _ cur 3 (h2 a ha) hc (by decide) (by decide)
theorem zrF {before:Nat->Nat}:∀ (m left:Nat) (l:List Nat),∀ x∈zcz before m left l,x.length<=l.length+m:=by
 intro m
 induction m with
 | zero =>
  intro left l x hx;unfold zcz at hx
  split at hx
  ·simp only [KC] at hx;subst hx;omega
  ·cases hx
 | succ m ih =>
  intro left l x hx;unfold zcz at hx
  split at hx
  ·simp only [KC] at hx;subst hx;omega
  ·obtain⟨a,_,ha⟩:=List.mem_flatMap.1 hx
   split at ha
   ·have:=ih _ _ _ ha;simp only [lap,Qu,QT] at this;omega
   ·cases ha
theorem zmo {r:RelD} {x:List Nat} (h:x∈zde r):x.length<=64:=by
 unfold zde at h
 split at h
 ·have:=zrF _ _ _ x h;simpa using this
 ·cases h
def AscB (xs:List (List Nat×OA×Nat)):Prop:=xs.Pairwise fun x y=>∀ a b,x.2.1=some a->y.2.1=some b->a.block<b.block
theorem AscB.snoc {xs:List (List Nat×OA×Nat)} {n:Nat} {y:List Nat×OA×Nat} (h:AscB xs) (h1:∀ x∈xs,∀ a,x.2.1=some a->a.block<n) (h2:∀ a,y.2.1=some a->n<=a.block):AscB (xs++[y]):=by
 unfold AscB;rw [List.pairwise_append];refine⟨h,List.pairwise_singleton _ _,fun x hx z hz a b ha hb=>?_⟩;rw [KC.1 hz] at hb;exact nL (h1 x hx a ha) (h2 b hb)
abbrev zu1:List (List Nat×OA×Nat):=[]
theorem zqu {r:RelD} {m:Nat} {w:Wd} (hr:zE r.to) (hT:Tz64M w) (hm:m<=10000) (hok:okR r=true) :
  Calls PG 203 #[.agg (zf r).toArray,i64 m] w fun e w' =>
   (((zde r).length<=m/\∃ (xs:List (List Nat×OA×Nat)) (p:OA) (c:Nat),e = .returned (.tuple #[.slice p xs.length c,i64 0])/\xs.map (·.1)=zde r/\AscB xs/\OwnS q6 128 w.heap.size w' p c xs/\∀ x∈xs,OwnS zC 3 w.heap.size w' x.2.1 x.2.2 x.1) \/
    (m<(zde r).length/\e = .returned (.tuple #[.slice none 0 0,i64 5])))/\Bw w w':=by
 refine zU 24 [.agg (zf r).toArray,i64 m] (.c .p (.s .p (.c .p .p))) Tryz.func203 ?_;obtain⟨L,hL⟩:=nm (w.heap.size);refine⟨Unit,fun _=>⟨[(2,At0 L),(3,At0 (L+1)),(4,At0 (L+2)),(5,At0 (L+3))],[]⟩,fun _ X=>(zG X L r/\X.heap[L+1]?=some (.cells #[i64 m] 3 (0,0))/\X.heap[L+2]?=some (.cells #[.slice none 0 0] 170 (0,0))/\X.heap[L+3]?=some (.cells #[i64 0] 42 (0,0)))/\X.heap.size=L+4/\Bw w X,?_,?_⟩
 ·have s1:=wz w (.cells (zf r).toArray 30);have h2:=zt (w.alloc (.cells (zf r).toArray 30)) (.cells #[i64 m] 3 (0,0));have s2:=wz (w.alloc (.cells (zf r).toArray 30)) (.cells #[i64 m] 3 (0,0));have h3:=zt ((w.alloc (.cells (zf r).toArray 30)).alloc (.cells #[i64 m] 3 (0,0))) (.cells #[.slice none 0 0] 170 (0,0));have s3:=wz ((w.alloc (.cells (zf r).toArray 30)).alloc (.cells #[i64 m] 3 (0,0))) (.cells #[.slice none 0 0] 170 (0,0));have h4:=zt (((w.alloc (.cells (zf r).toArray 30)).alloc (.cells #[i64 m] 3 (0,0))).alloc (.cells #[.slice none 0 0] 170 (0,0))) (.cells #[i64 0] 42 (0,0));have s4:=wz (((w.alloc (.cells (zf r).toArray 30)).alloc (.cells #[i64 m] 3 (0,0))).alloc (.cells #[.slice none 0 0] 170 (0,0))) (.cells #[i64 0] 42 (0,0));rw [s1] at h2 s2;rw [s2] at h3 s3;rw [s3] at h4 s4;rw [<- hL] at h2 s2 h3 s3 h4 s4;have f0:=qe (.cells #[i64 0] 42 (0,0)) (qe (.cells #[.slice none 0 0] 170 (0,0)) (qe (.cells #[i64 m] 3 (0,0)) (zt w (.cells (zf r).toArray 30))));rw [<- hL] at f0;exact⟨(),⟨.cons (by rw [hL];rfl) (.cons (by rw [hL,<- s1];rfl) (.cons (by rw [<- s2];rfl) (.cons (by rw [<- s3];rfl) .nil))),rfl⟩,⟨f0,qe _ (qe _ h2),qe _ h3,h4⟩,s4,((((zba w _)).alloc (by simp) _).alloc (by simp;omega) _).alloc (by simp;omega) _⟩
 rintro _ X ⟨⟨f0,f1,f2,f3⟩,sX,hbX⟩;refine⟨_,zc (za f1) (i:=0) rfl,cmo (zoq hr f0) ?_⟩;rintro e Y ⟨rfl,hbY⟩;refine brN (by rw [hok,Ux hm];rfl) ?_;have hwY:=zst hbX hbY;obtain⟨M,hM⟩:=nm (Y.heap.size);have hMX:L+4<=M:=by have:=hbY.size;omega
 refine⟨Unit,fun _=>⟨[(2,At0 L),(3,At0 (L+1)),(4,At0 (L+2)),(5,At0 (L+3)),(6,At0 M)],[]⟩,fun _ V=>V.heap[M]?=some (.cells #[.slice none 0 0] 170 (0,0))/\V.heap.size=M+1/\Bw X V,?_,?_⟩
 ·exact⟨(),⟨.cons rfl (.cons rfl (.cons rfl (.cons rfl (.cons (by rw [hM];rfl) .nil)))),rfl⟩,by rw [hM];exact zt Y _,by rw [hM];exact wz Y _,hbY.alloc hbY.size _⟩
 rintro _ V ⟨fM,sV,hbV⟩;have hwV:=zst hbX hbV;have f0:=zb hbV f0;have f1:=zb hbV f1;have f2:=zb hbV f2;have f3:=zb hbV f3;refine⟨zf r,zd _,za f0,hlt f0,cmo ztX ?_⟩;rintro e W ⟨rfl,fx,sW,hbW⟩;obtain⟨p0,p48,_⟩:=qy hok;have hwW:=zst hwV hbW;have htl:=zaf hT;have hI:=zve hr p48 fx (hT.below hwW);have f1:=zb hbW f1;have f2:=zb hbW f2;have f3:=zb hbW f3;have fM:=zb hbW fM;have hwL:w.heap.size=L:=hL.symm;clear hbV hbY hwY hbX f0 sX;refine zcM (za9 _) rfl (lb := #[At0 V.heap.size]) rfl rfl hI (Gh _) (fun k hk=>⟨?_,rfl⟩) (fun pre vs W ⟨l,q,c,_,h,_⟩=>by rw [h];rfl) (by decide)
  (fun k=>k=M\/k=L+2\/k=L+3)
  (fun pre F Z=>(∃ xs,(xs.map (·.1)=pre/\pre.length<=m/\AscB xs)/\Gath q6 128 170 (L+4) W.heap.size M W (zt4 (L+4)) xs F Z)/\F (L+2)/\F (L+3))
  (fun ex pre F Z=>ex = .ret/\m<(zde r).length/\Z.heap[L+2]?=some (.cells #[.slice none 0 0] 170 (0,0))/\Z.heap[L+3]?=some (.cells #[i64 5] 42 (0,0))/\Bw w Z/\W.heap.size<=Z.heap.size/\F (L+2)/\F (L+3)/\∀ k,F k->k<Z.heap.size)
  (fun k hk=>?_) ⟨?_,?_⟩ (fun ex=>⟨?_,?_⟩) ?_ ?_ ?_ ?_
 ·rcases hk with (rfl | rfl) | h
  ·omega
  ·have:=hwW.size;omega
  ·exact h.elim
 ·rcases hk with rfl | rfl <;> omega
 ·rintro pre F A C ⟨h,h2,h3⟩ hs;exact⟨(Gath.iter (σ:=List (List Nat)) (f:=fun pre xs=>xs.map (·.1)=pre/\pre.length<=m/\AscB xs) (zfy (L+4)) (by omega)).step pre F A C h hs,h2,h3⟩
 ·rintro pre F A k ⟨h,_⟩ hk;exact (Gath.iter (σ:=List (List Nat)) (f:=fun pre xs=>xs.map (·.1)=pre/\pre.length<=m/\AscB xs) (zfy (L+4)) (by omega)).lt pre F A k h hk
 ·rintro pre F A C ⟨h1,h2,h3,h4,h5,h6,h7,h8,h9⟩ hs;exact⟨h1,h2,(hs.same _ (hlt h3) (.inr h7)).trans h3,(hs.same _ (hlt h4) (.inr h8)).trans h4,h5.trans ⟨hs.os,hs.tape,hs.output,hs.size,fun k hk=>hs.same k (nL hk h5.size) (.inl ⟨by omega,fun h=>h⟩)⟩,UX h6 hs.size,h7,h8,fun k hk=>nL (h9 k hk) hs.size⟩
 ·rintro pre F A k ⟨h1,h2,h3,h4,h5,h6,h7,h8,h9⟩ hk;exact⟨h9 k hk,fun h=>h⟩
 ·refine⟨⟨zu1,⟨rfl,Gj _,List.Pairwise.nil⟩,⟨Gh _,.inl rfl,fun k hk=>?_,⟨none,0,fM,OwnS.nil,fun a h=>by cases h⟩,fun x hx=>(by cases hx),Gm _ _⟩⟩,.inr (.inl rfl),.inr (.inr rfl)⟩;rcases hk with rfl | rfl | rfl <;> omega
 ·rintro yl pre x vs F Y hyl hpre hJ ⟨l,q,c,hlast,rfl,hsl,hqc,hcel⟩ hfy ⟨lo,hlo⟩;have hxR:x=l:=by simpa using hlast
  subst hxR;refine⟨rfl,F,KeepsG.refl _ _,hJ,?_⟩;rintro o Y2 hY2 ⟨⟨xs,⟨hxs,hpm,hasc⟩,hG⟩,hF2,hF3⟩;have hpl:pre.length<(zde r).length:=by
   obtain⟨t,ht⟩:=hpre;rw [<- ht];simp only [lap,Qu];omega
  have hxl:xs.length=pre.length:=by rw [<- hxs,QS]
  have hmem:x∈zde r:=hpre.subset (by simp);have hlen:=zmo hmem;have hslY:SlR zC Y2 q x:=by
   rw [hY2];refine q5 hsl fun a ha=>zj fun e=>?_;obtain⟨cur,hcur⟩:=hcel a ha;rw [e,hlo] at hcur
   cases hcur
  obtain⟨p,c',h4,h5,h6⟩:=hG.row;have hWL:L+4<=W.heap.size:=by omega
  have g1:Y2.heap[L+1]?=some (.cells #[i64 m] 3 (0,0)):=(hG.old.block _ (by omega)).trans f1;refine⟨_,zc (za h4) (i:=0) rfl,_,zc (za g1) (i:=0) rfl,biE (fun hc=>?_) fun hc=>?_⟩
  ·have hc:((xs.length:Nat):Int)=(m:Int):=dT hc;have g2:Y2.heap[L+2]?=some (.cells #[.slice none 0 0] 170 (0,0)):=(hG.old.block _ (by omega)).trans f2;have g3:Y2.heap[L+3]?=some (.cells #[i64 0] 42 (0,0)):=(hG.old.block _ (by omega)).trans f3;refine zw znQ g2 (o:=0) (v := .slice none 0 0) rfl rfl (by show 0<1;decide) rfl fun Z1 fZ1 gZ1 sZ1=>zw k42 ((gZ1.block (L+3) (hlt g3) (by simp)).trans g3) (o:=0) (v:=i64 5) rfl rfl (by show 0<1;decide) rfl fun Z2 fZ2 gZ2 sZ2=>⟨F,⟨rfl,by omega,(gZ2.block (L+2) (hlt fZ1) (by simp)).trans fZ1,fZ2,?_,by have:=hG.size;omega,hF2,hF3,fun k hk=>by have:=hG.lt k hk;omega⟩,(KeepsG.grown gZ1 hF2).trans (KeepsG.grown gZ2 hF3)⟩;have hwY:=hwW.trans (hG.old.mono (by omega));exact (hwY.trans (zo gZ1 hwY.size (by omega))).trans (zo gZ2 (by have:=hwY.size;omega) (by omega))
  ·have hc:¬ ((xs.length:Nat):Int)=(m:Int):=dF hc;refine DrawE.ord [4,5] [0,1,2,3,4,5] (by kernel_rfl) ?_;have hd2:Bw Y2 Y2.drew:=(Gm _ _).drew;refine⟨_,zc (za (hdr h4)) (i:=0) rfl,cmo (zqC (hslY.below hd2) (by omega) hqc) ?_⟩;rintro e Y3 ⟨⟨q1,k1,rfl,o1⟩,hb3⟩;refine⟨hb3,?_⟩;obtain⟨nx,hnx⟩:∃ nx:List Nat×OA×Nat,nx=(x,q1,k1):=⟨_,rfl⟩;have hen:[Value.slice q1 x.length k1]=q6.enc nx:=by rw [hnx];rfl
   refine⟨⟨by decide,by decide,rfl⟩,q6.enc nx,by rw [<- hen];rfl,?_⟩;have hba:Bw Y3 (Y3.alloc (.cells (q6.enc nx).toArray 128)):=zba _ _;refine⟨hba,?_⟩;have hnw:∀ (G:Nat->Prop) (Z:Wd),(∀ k,Y2.heap.size<=k->k<Y3.heap.size->Z.heap[k]?=Y3.heap[k]?)->(∀ k,Y2.heap.size<=k->k<Y3.heap.size->G k)->zt4 (L+4) G Z nx:=by
    intro G Z hs hg;rw [hnx];have ol:∀ a,q1=some a->Y2.heap.size<=a.block/\a.block<Y3.heap.size:=fun a ha=>⟨(zy o1 ha).1,(zy o1 ha).2.1⟩;have hY2s:=hG.size;exact⟨OwnS.lower (o1.same fun a ha=>hs _ (ol a ha).1 (ol a ha).2) (by show L+4<=Y2.heap.size;omega),fun a ha=>hg _ (ol a ha).1 (ol a ha).2⟩
   obtain⟨v,Y5,hrun,Z,hrun2,F',hG',hK',hFF⟩:=hG.step (P:=PG) (ty:=170) (cap1:=1) (zfy (L+4)) (by decide) Tryz.underlying170 znR rfl rfl rfl znQ rfl (by omega) (by omega) (hd2.trans hb3) nx (by omega) (by show (xs.length+1)*24<=_;omega) hnw p c' h4;exact SatR.mk hrun (SatR.mk hrun2 ⟨F',⟨⟨_,⟨by rw [QV,hxs,hnx];rfl,by simp only [lap,Qu,QT];omega,hasc.snoc (n:=Y2.heap.size) (fun x' hx' a ha=>(zy (hG.nest x' hx').1 ha).2.1) (fun a ha=>by rw [hnx] at ha;exact (zy o1 ha).1)⟩,hG'⟩,hFF _ hF2,hFF _ hF3⟩,hK'⟩)
 ·rintro D F Y hD hfD ⟨⟨xs,⟨hxs,hpm,hasc⟩,hG⟩,hF2,hF3⟩ hdef;obtain⟨p,c',h4,h5,h6⟩:=hG.row;have hWL:L+4<=W.heap.size:=by omega
  have g2:Y.heap[L+2]?=some (.cells #[.slice none 0 0] 170 (0,0)):=(hG.old.block _ (by omega)).trans f2;have g3:Y.heap[L+3]?=some (.cells #[i64 0] 42 (0,0)):=(hG.old.block _ (by omega)).trans f3;refine⟨_,zc (za h4) (i:=0) rfl,zw znQ g2 (o:=0) (v := .slice p xs.length c') rfl rfl (by show 0<1;decide) rfl fun Z1 fZ1 gZ1 sZ1=>zw k42 ((gZ1.block (L+3) (hlt g3) (by simp)).trans g3) (o:=0) (v:=i64 0) rfl rfl (by show 0<1;decide) rfl fun Z2 fZ2 gZ2 sZ2=>?_⟩;have k2:∀ k,k<Y.heap.size->k≠L+2->k≠L+3->Z2.heap[k]?=Y.heap[k]?:=fun k hk n1 n2=>(gZ2.block k (by rw [sZ1];exact hk) (by simpa using n2)).trans (gZ1.block k hk (by simpa using n1));refine⟨_,rfl,(k2 D (hlt hdef) (by omega) (by omega)).trans hdef,?_⟩;have f2':=(gZ2.block (L+2) (hlt fZ1) (by simp)).trans fZ1;have nD2:D≠L+2:=fun e=>hfD (e▸hF2);have nD3:D≠L+3:=fun e=>hfD (e▸hF3);have hwY:=hwW.trans (hG.old.mono (by omega));have b2:=(hwY.trans (zo gZ1 hwY.size (by omega))).trans (zo gZ2 (by have:=hwY.size;omega) (by omega));have kp:∀ a:Addr,L+4<=a.block->F a.block->a.block<Y.heap.size->(Z2.putObj D (.deferred none)).heap[a.block]?=Y.heap[a.block]?:=fun a h1 h2 h3=>(zj fun e=>by rw [<- e] at hfD;exact hfD h2).trans (k2 _ h3 (by omega) (by omega));refine⟨.slice p xs.length c',zc (za ((zj fun e=>nD2 e.symm).trans f2')) (i:=0) rfl,i64 0,zc (za ((zj fun e=>nD3 e.symm).trans fZ2)) (i:=0) rfl,.inl ⟨by rw [<- hxs,QS] at hpm ⊢;exact hpm,xs,p,c',rfl,hxs,hasc,?_,fun x hx=>?_⟩,z8 b2 (by omega) _⟩
  ·exact OwnS.lower (h5.same fun a ha=>kp a (zy h5 ha).1 (h6 a ha) (zy h5 ha).2.1) (by omega)
  ·obtain⟨hx1,hx2⟩:=hG.nest x hx;exact OwnS.lower (hx1.same fun a ha=>kp a (zy hx1 ha).1 (hx2 a ha) (zy hx1 ha).2.1) (by omega)
 ·rintro D ex pre F Y hD hfD hpre ⟨rfl,hm2,h3,h4,h5,h6,h7,h8,h9⟩ hdef;refine⟨_,rfl,hdef,?_⟩;have nD2:D≠L+2:=fun e=>hfD (e▸h7);have nD3:D≠L+3:=fun e=>hfD (e▸h8);exact⟨_,zc (za ((zj fun e=>nD2 e.symm).trans h3)) (i:=0) rfl,_,zc (za ((zj fun e=>nD3 e.symm).trans h4)) (i:=0) rfl,.inr ⟨hm2,rfl⟩,z8 h5 (by have:=hwW.size;omega) _⟩
theorem zqA {p:OA} {cap:Nat} {l:List Nat} {s:Nat} {w:Wd} (hl:SlR zC w p l) (hn:l.length<=140737488351232) :
  Calls PG 231 #[.slice p l.length cap,i64 s] w fun e w'=>∃ n:Int,e = .returned (i64 n)/\decide (0<=n)=l.any (fun q=>decide (q=s))/\w=w':=by
 refine zI 19 [.slice p l.length cap,i64 s] Tryz.func231 ?_;refine⟨Nat,fun k=>⟨[(0,.slice p l.length cap),(1,i64 s),(7,i64 l.length),(8,i64 (k:Nat))],[]⟩,fun k X=>k<=l.length/\(∀ q∈l.take k,¬ q=s)/\w=X,fun k=>l.length-k,0,(cvE rfl rfl),⟨Gj _,by simp,rfl⟩,?_⟩;rintro k _ ⟨hk,hno,rfl⟩;dsimp only at hk hno ⊢;refine biE (fun hc=>?_) fun hc=>?_
 ·have hc:(k:Int)<(l.length:Int):=dT hc;have hkl:k<l.length:=by omega
  obtain⟨b,o,rfl,hb,hat⟩:=hl.at hkl;refine⟨k,rfl,hkl,i64 l[k],zc (hat k hkl) (i:=0) rfl,biE (fun h=>?_) fun h=>?_⟩
  ·have h:(s:Int)=(l[k]:Nat):=dT h;refine⟨k,rfl,?_,rfl⟩;rw [Ux (by omega)];symm;rw [Qm];exact⟨l[k],gM _,Ux (by omega)⟩
  ·have h:¬ (s:Int)=(l[k]:Nat):=dF h;refine⟨(k+1:Nat),(zi (by omega)).trans (by omega),k+1,(cvE rfl rfl),⟨hkl,?_,rfl⟩,zdc (by omega)⟩;rw [tsg hkl];intro q hq;rcases QW.1 hq with hq | hq
   ·exact hno q hq
   ·simp only [KC] at hq;rw [hq];exact fun e=>h (by rw [e])
 ·have hc:¬ (k:Int)<(l.length:Int):=dF hc;obtain rfl:k=l.length:=by omega
  rw [Qy] at hno;refine⟨-1,rfl,?_,rfl⟩;symm;show _=false;rw [KQ];exact fun q hq=>by simpa using hno q hq
theorem zkX {p:OA} {cap:Nat} {l:List Nat} {s:Nat} {w:Wd} (hl:SlR zC w p l) (hn:l.length<=140737488351232) :
  Calls PG 199 #[.slice p l.length cap,i64 s] w fun e w'=>e = .returned (.bool (l.any fun q=>decide (q=s)))/\w=w':=by
 refine zI 9 [.slice p l.length cap,i64 s] Tryz.func199 ?_;refine cmo (zqA hl hn) ?_;rintro e _ ⟨n,rfl,h,rfl⟩;exact⟨rb h,rfl⟩
abbrev ziO (l:List Nat):List Value:=l.map fun n:Nat=>i64 n
abbrev RowI (Z:Wd) (g:Nat) (l:List Nat):Prop:=Z.heap[g]?=some (.cells (ziO l).toArray 3 (0,0))
theorem zeT:∀ l:List Nat,l.flatMap zC.enc=ziO l
 | []=>rfl
 | a::l=>by
  show i64 a::l.flatMap zC.enc=i64 a::ziO l;rw [zeT l]
theorem zjl:∀ n,zcm [Value.int IntKind.i64 0] n=ziO (List.replicate n 0)
 | 0=>rfl
 | n+1=>by
  show Value.int IntKind.i64 0::zcm [Value.int IntKind.i64 0] n=i64 0::ziO (List.replicate n 0);rw [<- zjl n];rfl
theorem RowI.sl {Z:Wd} {g:Nat} {l:List Nat} (h:RowI Z g l):SlR zC Z (some ⟨g,0,none⟩) l :=
 SlR.of_cells (hlt h) (by rw [zeT];exact za h)
theorem znt {α:Type} {f:Nat->α} {n j:Nat} (h:j<n):((List.range j).map f++[f j]) <+: (List.range n).map f:=by
 obtain⟨m,rfl⟩:∃ m,n=(j+1)+m:=⟨n-(j+1),by omega⟩;rw [List.range_add,QV];exact⟨_,by rw [Ua,QV];rfl⟩
def StD (pre:List (List Nat)) (vs:List Value) (W:Wd):Prop:=∃ l q,pre.getLast?=some l/\vs=[.slice q l.length l.length]/\SlR zC W q l/\∀ a,q=some a->∃ cur,W.heap[a.block]?=some (.cells cur 3 (0,0))
section
variable {bx:Nat} {sizes:List Nat} {q:OA} {c:Nat} {W0:Wd}
theorem zsv (fx:W0.heap[bx]?=some (.cells #[.slice q sizes.length c] 128 (0,0))) (hl:SlR zC W0 q sizes) (hql:∀ a,q=some a->a.block<W0.heap.size) (hn:sizes.length<=1000) (hm:∀ n∈sizes,n<=1000000) :
  ziB PG 198 [At0 bx] (zbY sizes) W0 (fun k=>k=bx\/∃ a,q=some a/\k=a.block) (fun _=>False) StD:=by
 intro yl F0 J Jx W hsz hrd hrf hJ hJx hy h0;have fxW:=(hrd bx (.inl (.inl rfl))).trans fx;have hlW:SlR zC W q sizes:=q5 hl fun a ha=>hrd _ (.inl (.inr ⟨a,ha,rfl⟩));refine zI 43 [.func (.yield yl) #[] #[],At0 bx] Tryz.func198 ?_;refine⟨_,zc (za fxW) (i:=0) rfl,cmo (zkX (s:=0) hlW (by omega)) ?_⟩;rintro e _ ⟨rfl,rfl⟩;refine biE (fun h=>?_) fun h=>?_
 ·have h:(sizes.any fun q=>decide (q=0))=true:=h;obtain⟨z,hz,hz0⟩:=Qm.1 h;have hz0:z=0:=dT hz0;subst hz0;have hs:zbY sizes=[]:=by unfold zbY;rw [zea (by simpa using hz)];rfl
  rw [hs];exact⟨⟨_,rfl⟩,.inl ⟨F0,h0⟩⟩
 have h:(sizes.any fun q=>decide (q=0))=false:=h;obtain⟨rs,hrs⟩:=nm (sizes.reverse);have hr0:∀ n∈rs,n≠0:=fun n hn e=>by
  rw [KQ] at h;exact h n (by rw [hrs] at hn;simpa using hn) (Ux e)
 have hlen:rs.length=sizes.length:=by rw [hrs,Kj]
 refine⟨_,zc (za fxW) (i:=0) rfl,zih Tryz.underlying128 k3 rfl rfl (by decide) sizes.length (by show 8*_<=_;omega) (by omega) fun X fX hbX sX=>?_⟩;rw [zjl] at fX;obtain⟨D,hD⟩:∃ D:Nat->List Nat,D=fun j=>(zaD rs j).reverse:=⟨_,rfl⟩;have hDl:∀ j,(D j).length=sizes.length:=fun j=>by rw [hD];show ((zaD rs j).reverse).length=_;rw [Kj,zfc,hlen]
 have hds:zbY sizes=(List.range (qg rs)).map D:=by unfold zbY;rw [hD,hrs]
 have hP:0<qg rs:=zh2 hr0;have hD0:D 0=List.replicate sizes.length 0:=by
  rw [hD];show (zaD rs 0).reverse=_;rw [zit,List.reverse_replicate,hlen]
 rw [<- hD0] at fX;rw [hds] at hy ⊢;obtain⟨g,hg⟩:=nm (W.heap.size);rw [<- hg] at fX;have hbxW:=hlt fxW;refine⟨Nat×(Nat->Prop),fun s=>⟨[(0,.func (.yield yl) #[] #[]),(1,At0 bx),(3,.slice (some ⟨g,0,none⟩) sizes.length sizes.length)],[]⟩,
  fun s Z=>s.1<qg rs/\J ((List.range s.1).map D) s.2 Z/\RowI Z g (D s.1)/\¬ s.2 g/\W.heap.size<=Z.heap.size/\Z.heap[bx]?=some (.cells #[.slice q sizes.length c] 128 (0,0))/\¬ s.2 bx/\RowF zC W.heap.size s.2 Z q sizes,
  fun s=>qg rs-s.1,(0,F0),⟨.cons rfl (.cons rfl (.cons (by rw [hg];rfl) .nil)),rfl⟩,
  ⟨hP,hJ.step _ _ _ _ h0 (.below hbX),fX,fun h=>by have:=(hJ.lt _ _ _ _ h0 h).1;omega,hbX.size,zb hbX fxW,hrf _ (.inl rfl),⟨hlW.below hbX,fun a ha=>⟨by have:=hql a ha;omega,hrf _ (.inr ⟨a,ha,rfl⟩)⟩⟩⟩,?_⟩
 rintro⟨j,F⟩ Z ⟨hj,hjZ,fZ,hgF,hWZ,fxZ,hbF,hqZ⟩;dsimp only at hj hjZ fZ hgF fxZ hbF hqZ ⊢;have hpre:((List.range j).map D++[D j]) <+: (List.range (qg rs)).map D:=znt hj;refine YieldR.mono (hy _ (D j) [.slice (some ⟨g,0,none⟩) sizes.length sizes.length] F Z hjZ ⟨D j,_,by simp,by rw [hDl j],fZ.sl,fun a ha=>(by cases ha;exact⟨_,fZ⟩)⟩ hpre) ?_;rintro v Y (⟨rfl,F',hjY,kY⟩ | ⟨rfl,F',hjY⟩)
 ·refine brT ?_;have hgZ:=hlt fZ;have fY:RowI Y g (D j):=(kY.same g hgZ hgF).trans fZ;have hgF':¬ F' g:=fun h=>by
   rcases kY.fp g h with h | h
   ·exact hgF h
   ·omega
  have fxY:=(kY.same bx (hlt fxZ) hbF).trans fxZ;have hbF':¬ F' bx:=fun h=>by
   rcases kY.fp bx h with h | h
   ·exact hbF h
   ·have:=hlt fxZ;omega
  have hqY:=hqZ.keep hWZ kY (fun _ _ h=>h);have hWY:=UX hWZ kY.size;have hjY2:J ((List.range (j+1)).map D) F' Y:=by
   rw [Ua,QV];exact hjY
  clear hjY hpre fZ fxZ hqZ hjZ hWZ hgZ hgF hbF kY;refine⟨((sizes.length:Nat):Int)-1,zi (by omega),?_⟩;have hgn:W.heap.size<=g:=by omega
  have hbg:bx≠g:=by omega
  refine⟨Nat,fun t=>⟨[(0,.func (.yield yl) #[] #[]),(1,At0 bx),(3,.slice (some ⟨g,0,none⟩) sizes.length sizes.length),(4,i64 (((sizes.length:Nat):Int)-1-(t:Nat)))],[]⟩,
   fun t V=>t<=sizes.length/\zhC rs j t/\RowI V g ((List.replicate t 0++(zaD rs j).drop t).reverse)/\J ((List.range (j+1)).map D) F' V/\W.heap.size<=V.heap.size/\V.heap[bx]?=some (.cells #[.slice q sizes.length c] 128 (0,0))/\RowF zC W.heap.size F' V q sizes,fun t=>sizes.length-t,0,
   ⟨.cons rfl (.cons rfl (.cons rfl (.cons (by rw [Int.ofNat_zero,Int.sub_zero];rfl) .nil))),rfl⟩,⟨Gj _,zlP _ _,by rw [hD] at fY;exact fY,hjY2,hWY,fxY,hqY⟩,?_⟩
  clear fY fxY hqY hjY2 hWY;rintro t V ⟨ht,hc,fV,hjV,hWV,fxV,hqV⟩;dsimp only at ht hc fV hjV ⊢;have hLl:(zaD rs j).length=sizes.length:=by rw [zfc,hlen]
  refine DrawE.ord [] [0,1,2,3,4,5,6,7,8,9,10,11,12,13] (by kernel_rfl) (biE (fun hi=>?_) fun hi=>?_)
  ·have hi:(0:Int)<=((sizes.length:Nat):Int)-1-(t:Nat):=dT hi;have htl:t<sizes.length:=by omega
   obtain⟨i,hit⟩:∃ i,i+t+1=sizes.length:=⟨sizes.length-1-t,by omega⟩;have hii:((sizes.length:Nat):Int)-1-(t:Nat)=(i:Nat):=by omega
   rw [hii];obtain⟨d,hd⟩:∃ d,(zaD rs j)[t]?=some d:=⟨_,gE (by omega)⟩;obtain⟨n,hn⟩:∃ n,rs[t]?=some n:=⟨_,gE (by omega)⟩;have hil:i<sizes.length:=by omega
   have hsn:sizes[i]=n:=by
    have:=JK (l:=sizes) (i:=t) htl;rw [<- hrs,hn,show sizes.length-1-t=i by omega,gE hil] at this;exact (Ui this).symm
   have hnm:n∈sizes:=by rw [<- hsn];exact gM hil
   have hn1:=hm n hnm;have hn0:n≠0:=hr0 n (by rw [hrs];simpa using hnm);have zbT:=zsZ hd (i:=i) (by omega);have hdn:d<n:=by
    obtain⟨A,ns,k,c1,c2,c3,c4,c5⟩:=hc
    cases ns with
    | nil=>rw [c1,QO,JJ (by omega)] at hn;cases hn
    | cons m ns =>
     have hm':m=n:=by
      rw [c1,Jl (by omega),c2,UZ] at hn;exact Ui hn
     have:=Gw (fun l=>l[0]?) c4;simp only [Ky,UU] at this;rw [hd] at this;have:d=k%m:=Ui this;rw [this,hm'];exact Gr _ (by omega)
   have hrl:((List.replicate t 0++(zaD rs j).drop t).reverse).length=sizes.length:=by simp;omega
   refine⟨i,rfl,hil,?_⟩;have hrc:(ziO (List.replicate t 0++(zaD rs j).drop t).reverse)[i*1]?=some (i64 d):=by
    rw [Gi,KW,zbT];rfl
   refine⟨i64 d,zc (za (hdr fV)) hrc,_,zc (za (hdr fxV)) (i:=0) rfl,?_⟩;obtain⟨bq,oq,hqe,hlq,hatq⟩:=hqV.row.at hil;subst hqe;refine⟨i,rfl,hil,i64 n,by rw [<- hsn];exact zc (zz (Gm _ V).drew (hatq i hil)) (i:=0) rfl,((n:Nat):Int)-1,zi (by omega),biE (fun he=>?_) fun he=>?_⟩
   ·have he:(d:Int)=(n:Int)-1:=dT he;have hrs2:=zmh hd (i:=i) (by omega) 0;refine⟨i,rfl,hil,zw k3 (hdr fV) (o:=0+i*1) (v:=i64 0) rfl rfl (by rw [QS,hrl];omega) rfl fun V1 fV1 gV1 sV1=>⟨((sizes.length:Nat):Int)-1-((t+1:Nat):Int),(zi (by omega)).trans (by omega),?_⟩⟩;have gV2:V.grownBy V1 (some g):=zg (zh (Gm _ V).drew) gV1;have kV:KeepsG (fun k=>k=g) (fun _=>False) V V1:=⟨gV2.os,gV2.tape,gV2.output,gV2.size,fun k hk hf=>gV2.block k hk (fun e=>hf (by cases e;rfl)),fun k h=>h.elim⟩;have hsV:=gV2.size;refine⟨t+1,(cvE rfl rfl),⟨htl,zlR hr0 hc hn hd (by omega),?_,hJ.step _ _ _ _ hjV (StepG.grown gV2 (.inl hgn) hgF'),by omega,(gV2.block bx (hlt fxV) (by simpa using hbg)).trans fxV,⟨q5 hqV.row fun a ha=>gV2.block _ (by have:=(hqV.out a ha).1;omega) (by have:=(hqV.out a ha).1;simp;omega),hqV.out⟩⟩,zdc (by omega)⟩;show RowI V1 g _;rw [<- zo1,<- hrs2];rw [Gi,Gb] at fV1;refine fV1.trans ?_;unfold ziO;rw [UR];rfl
   ·have he:¬ (d:Int)=(n:Int)-1:=dF he;have hstop:=zlQ hr0 hc hn hd (by omega);have hmore:=zlS hr0 hc hn hd (by omega) hj;have hrs2:=zmh hd (i:=i) (by omega) (d+1);refine brN (Ul (by omega)) ⟨i,rfl,hil,i64 d,zc (za (hdr fV)) hrc,nxI (by omega) ⟨i,rfl,hil,zw k3 (hdr fV) (o:=0+i*1) (v:=i64 ((d+1:Nat):Int)) rfl rfl (by rw [QS,hrl];omega) rfl fun V1 fV1 gV1 sV1=>?_⟩⟩;have gV2:V.grownBy V1 (some g):=zg (zh (Gm _ V).drew) gV1;have hsV:=gV2.size;refine⟨(j+1,F'),(cvE rfl rfl),⟨hmore,hJ.step _ _ _ _ hjV (StepG.grown gV2 (.inl hgn) hgF'),?_,hgF',by omega,(gV2.block bx (hlt fxV) (by simpa using hbg)).trans fxV,hbF',⟨q5 hqV.row fun a ha=>gV2.block _ (by have:=(hqV.out a ha).1;omega) (by have:=(hqV.out a ha).1;simp;omega),hqV.out⟩⟩,zdc (by omega)⟩;show RowI V1 g (D (j+1));rw [hD];show RowI V1 g (zaD rs (j+1)).reverse;rw [hstop,<- hrs2];rw [Gi,Gb] at fV1;refine fV1.trans ?_;unfold ziO;rw [UR]
  ·have hi:¬ (0:Int)<=((sizes.length:Nat):Int)-1-(t:Nat):=dF hi;have hte:t=rs.length:=by omega
   rw [hte] at hc;have he:=zoc hc hj;refine brF (brE (Ux (by omega)) ?_);rw [he] at hjV;exact⟨⟨_,rfl⟩,.inl ⟨F',hJ.step _ _ _ _ hjV (.below (Gm _ V).drew)⟩⟩
 ·exact brF ⟨⟨_,rfl⟩,.inr ⟨_,F',hpre,hjY⟩⟩
end
def poG (ev:List Ev) (k:Nat):Nat->Nat:=fun i=>if i<k then zc7 ev i else 0
theorem zml (ev:List Ev) (k:Nat):upd (poG ev k) k (zc7 ev k)=poG ev (k+1):=by
 funext i;unfold upd poG;by_cases h:i=k
 ·rw [GC h,GC (by omega),h]
 ·rw [GB h];by_cases h2:i<k
  ·rw [GC h2,GC (by omega)]
  ·rw [GB h2,GB (by omega)]
theorem zjY (ev:List Ev) (k:Nat):upd (poG ev k) k 0=poG ev k:=by
 funext i;unfold upd poG;by_cases h:i=k
 ·rw [GC h,GB (by omega)]
 ·rw [GB h]
theorem zq8 (ev:List Ev):poG ev ev.length=zc7 ev:=by
 funext i;unfold poG
 split
 ·rfl
 ·unfold zc7;rw [JJ (by omega)]
section
variable {p:OA} {cap:Nat} {ev:List Ev} {w:Wd}
theorem zdl (hl:SlR evE w p ev) (hn:ev.length<=48):CB 41 #[.slice p ev.length cap] w (.agg (zf (poR ev)).toArray):=by
 refine zU 47 [.slice p ev.length cap] (.s .p (.c .p .p)) Tryz.func41 ?_;obtain⟨L,hL⟩:=nm (w.heap.size);have hbL:=zt w (.cells (zf zn).toArray 30 (0,0));have hbb:Bw w (w.alloc (.cells (zf zn).toArray 30 (0,0))):=zba w _;have hbs:=wz w (.cells (zf zn).toArray 30 (0,0));refine⟨Unit,fun _=>⟨[(0,.slice p ev.length cap),(2,At0 L),(3,At0 (L+1))],[]⟩,fun _ X=>zG X L zn/\zG X (L+1) ⟨ev.length,fun _=>0⟩/\X.heap.size=L+2/\Bw w X,?_,?_⟩
 ·refine⟨zf ⟨ev.length,fun _=>0⟩,rfl,zl (X:=w.alloc (.cells (zf zn).toArray 30 (0,0))) (v := .agg (zf ⟨ev.length,fun _=>0⟩).toArray) k30 (zd _) rfl (zB _) fun V hbV fV sV=>?_⟩;rw [hbs] at fV sV;exact⟨(),⟨.cons rfl (.cons (by rw [hL];rfl) (.cons (by rw [hL,<- hbs];rfl) .nil)),rfl⟩,by rw [hL];exact zb hbV hbL,by rw [hL];exact fV,by rw [hL];exact sV,(zst hbb hbV)⟩
 rintro _ X ⟨f0,f1,sX,hbX⟩;refine⟨Nat,fun k=>⟨[(0,.slice p ev.length cap),(2,At0 L),(3,At0 (L+1)),(10,.slice p ev.length cap),(11,i64 ev.length),(12,i64 (k:Nat))],[]⟩,
  fun k V=>k<=ev.length/\zG V (L+1) ⟨ev.length,poG ev k⟩/\zG V L zn/\L+1<V.heap.size/\Bw w V,fun k=>ev.length-k,0,
  (cvE rfl rfl),⟨Gj _,f1,f0,by omega,hbX⟩,?_⟩
 rintro k V ⟨hk,fV,f0V,sV,hbV⟩;dsimp only at hk fV ⊢;refine biE (fun hc=>?_) fun hc=>?_
 ·have hc:(k:Int)<(ev.length:Int):=dT hc;have hkl:k<ev.length:=by omega
  obtain⟨e,he⟩:∃ e,ev[k]=e:=⟨_,rfl⟩;have hek:ev[k]?=some e:=by rw [<- he];exact gE hkl
  obtain⟨bp,op,rfl,hlp,hat⟩:=hl.at hkl;refine⟨k,rfl,hkl,evE.enc e,rfl,by rw [<- he];exact zz hbV (hat k hkl),nL hlp hbV.size,zl (X:=V) (v := .agg (evE.enc e).toArray) zdU rfl rfl (Ql.2 fun u hu=>evE.one e u hu) fun Y hbY fY sY=>?_⟩;obtain⟨b,hb⟩:=nm (V.heap.size);rw [<- hb] at fY;have eb:some (Value.pointer (some ⟨V.heap.size,0,none⟩))=some (At0 b):=by rw [hb]
  have hwY:=zst hbV hbY;have hMb:L+1<b:=by omega
  have fYM:=zb hbY fV;have fYL:=zb hbY f0V;refine⟨i64 e.th,by rw [<- hb];exact zc (za fY) (i:=0) rfl,biE (fun h=>?_) fun h=>?_⟩
  ·have h:e.th = -1:=dT h;have hr:zc7 ev k=0:=by
    unfold zc7;rw [hek];exact GC h
   refine nxI (by omega) ⟨k+1,(cvE rfl rfl),⟨hkl,?_,fYL,by omega,hwY⟩,zdc (by omega)⟩;rw [<- zml,hr,zjY];exact fYM
  have h:¬ e.th = -1:=dF h;have hr:zc7 ev k=zjZ e.th (k+1) (ev.drop (k+1)) 0:=by
   unfold zc7;rw [hek];exact GB h
  refine nxI (by omega) ?_;refine⟨Nat×Nat,fun s=>⟨[(0,.slice (some ⟨bp,op,none⟩) ev.length cap),(2,At0 L),(3,At0 (L+1)),(4,i64 (k:Nat)),(5,At0 b),(6,i64 (s.1:Nat)),(10,.slice (some ⟨bp,op,none⟩) ev.length cap),(11,i64 ev.length),(12,i64 (k:Nat))],[]⟩,
   fun s Z=>s.1<=ev.length/\zc7 ev k=zjZ e.th s.1 (ev.drop s.1) s.2/\s.2<2^64/\zG Z (L+1) ⟨ev.length,upd (poG ev k) k s.2⟩/\zG Z L zn/\Z.heap[b]?=some (.cells (evE.enc e).toArray 158 (0,0))/\Bw w Z,fun s=>ev.length-s.1,(k+1,0),
   ⟨.cons rfl (.cons rfl (.cons rfl (.cons rfl (.cons eb (.cons rfl (.cons rfl (.cons rfl (.cons rfl .nil)))))))),rfl⟩,⟨hkl,hr,(by decide:0<2^64),by rw [zjY];exact fYM,fYL,fY,hwY⟩,?_⟩
  clear fY fYM fYL hwY hbY sY f0V fV hbV sV;rintro⟨j,s⟩ Z ⟨hj,hacc,hs,fM,fL,fb,hbZ⟩;dsimp only at hj hacc hs fM ⊢;refine biE (fun hc=>?_) fun hc=>?_
  ·have hc:(j:Int)<(ev.length:Int):=dT hc;have hjl:j<ev.length:=by omega
   have hdrop:ev.drop j=ev[j]::ev.drop (j+1):=(JD hjl).symm;rw [hdrop] at hacc;have hacc:zc7 ev k=zjZ e.th (j+1) (ev.drop (j+1)) (if ev[j].th=e.th then s|||2^j else s):=hacc;refine DrawE.ord [] [0,1,2,3,4,5,6,7] (by kernel_rfl) ⟨j,rfl,hjl,i64 ev[j].th,zc (zz hbZ (hat j hjl)) (i:=0) rfl,i64 e.th,zc (za (hdr fb)) (i:=0) rfl,?_⟩;have hslot:(zf ⟨(ev.length:Int),upd (poG ev k) k s⟩)[1+k]?=some (s64 s):=by
    have:=zgf ⟨(ev.length:Int),upd (poG ev k) k s⟩ (i:=k) (by omega);rw [this];show some (s64 (upd (poG ev k) k s k))=_;rw [jd]
   have hdZ:Bw Z Z.drew:=(Gm _ Z).drew;refine biE (fun he=>?_) fun he=>?_
   ·have he:ev[j].th=e.th:=dT he;rw [GC he] at hacc;refine DrawE.ord [9] [0,1,2,3,4,5,6,7,8,9] (by kernel_rfl) ⟨k,rfl,by omega,?_⟩;refine⟨s64 s,by rw [Gi,UL];exact zc (za (hdr (hdr fM))) hslot,by omega,_,jH (e:=j) (by omega),_,jZ hs (zV (by omega)),k,rfl,by omega,?_⟩;refine zw k27 (hdr (hdr fM)) (o:=0+1+k*1) (v:=s64 (s|||2^j)) rfl rfl (by rw [zd];omega) rfl fun S fS gS sS=>?_;rw [Gb,Gi,zeJ _ (show k<48 by omega)] at fS;have gS2:Z.grownBy S (some (L+1)):=zg (zh (Gm _ Z).drew) (zg (zh (Gm _ _).drew) gS);refine nxI (by omega) ⟨(j+1,s|||2^j),(cvE rfl rfl),⟨hjl,hacc,Qa hs (zV (by omega)),?_,(gS2.block L (hlt fL) (by simp)).trans fL,(gS2.block b (hlt fb) (by simp;omega)).trans fb,hbZ.trans (zo gS2 hbZ.size (by omega))⟩,zdc (by omega)⟩;have:upd (upd (poG ev k) k s) k (s|||2^j)=upd (poG ev k) k (s|||2^j):=by
     funext i;unfold upd
     split <;> rfl
    rw [this] at fS;exact fS
   ·have he:¬ ev[j].th=e.th:=dF he;rw [GB he] at hacc;exact nxI (by omega) ⟨(j+1,s),(cvE rfl rfl),⟨hjl,hacc,hs,fM,fL,fb,(zst hbZ hdZ)⟩,zdc (by omega)⟩
  ·have hc:¬ (j:Int)<(ev.length:Int):=dF hc;have:j=ev.length:=by omega
   subst this;rw [Qo] at hacc;have hacc:zc7 ev k=s:=hacc;refine nxI (by omega) ⟨k+1,(cvE rfl rfl),⟨hkl,?_,fL,hlt fM,hbZ⟩,zdc (by omega)⟩;rw [<- zml,hacc];exact fM
 ·have hc:¬ (k:Int)<(ev.length:Int):=dF hc;obtain rfl:k=ev.length:=by omega
  rw [zq8] at fV;exact⟨zf (poR ev),zd _,za fV,hlt fV,zr (v := .agg (zf (poR ev)).toArray) k30 f0V rfl rfl (zB _) ⟨zf (poR ev),zd _,za (zm f0V),rfl,zk hbV (by omega) _⟩⟩
end
def zer:UInt8->List UInt8->List UInt8
 | _,[]=>[]
 | p,y::r=>if y=p then zer p r else y::zer y r
def ded:List UInt8->List UInt8
 | []=>[]
 | x::r=>x::zer x r
theorem zfJ:∀ (A:List UInt8) (p x:UInt8),zer p (A++[x])=if x=(p::A).getLast (by simp) then zer p A else zer p A++[x]
 | [],p,x=>by
  show (if x=p then [] else [x])=_;rfl
 | y::A,p,x=>by
  show (if y=p then zer p (A++[x]) else y::zer y (A++[x]))=_;have hl:(p::y::A).getLast (by simp)=(y::A).getLast (by simp):=List.getLast_cons (by simp);rw [hl];show _=if x=(y::A).getLast _ then (if y=p then zer p A else y::zer y A) else (if y=p then zer p A else y::zer y A)++[x]
  by_cases h:y=p
  ·subst h;rw [GC rfl,GC rfl,zfJ A y x]
  ·rw [GB h,GB h,zfJ A y x]
   split <;> rfl
theorem zp3 {A:List UInt8} (h:A≠[]) (x:UInt8):ded (A++[x])=if x=A.getLast h then ded A else ded A++[x]:=by
 cases A with
 | nil=>exact GD rfl h
 | cons y A =>
  show y::zer y (A++[x])=_;rw [zfJ];show _=if x=(y::A).getLast h then y::zer y A else y::zer y A++[x]
  split <;> rfl
theorem zkA {l:List UInt8} {i:Nat} (h0:0<i) (hi:i<l.length):ded (l.take (i+1))=if l[i]=l[i-1] then ded (l.take i) else ded (l.take i)++[l[i]]:=by
 rw [tsg hi];have hne:l.take i≠[]:=by
  intro e;have:=Gw List.length e;rw [Qw,QT] at this;omega
 rw [zp3 hne];have:(l.take i).getLast hne=l[i-1]:=by
  have hlen:(l.take i).length-1=i-1:=by rw [Qw];omega
  simp only [List.getLast_eq_getElem,List.getElem_take,hlen]
 rw [this]
section
variable {B g cap:Nat} {l:List UInt8} {w:Wd}
theorem zfg {X:Wd} {sp:List Value} {M:List UInt8} (h:RowS zO 5 X g sp M) {i:Nat} (hi:i<M.length):X.cell? ⟨g,0+i*1,none⟩=some (u8 M[i]):=by
 have:=zc (h.at hi) (i:=0) (v:=u8 M[i]) rfl;exact this
theorem zkO {M:List UInt8} {i:Nat} {x:UInt8} (h:M[i]?=some x):∃ hi:i<M.length,M[i]=x:=by
 obtain⟨hi,e⟩:=Jq.1 h;exact⟨hi,e⟩
theorem zl2 (ho:OwnS zO 5 B w (some ⟨g,0,none⟩) cap l) (hn:l.length<=1000000) :
  Calls PG 194 #[.slice (some ⟨g,0,none⟩) l.length cap] w fun e w'=>e = .returned (.slice (some ⟨g,0,none⟩) (ded l).length cap)/\OwnS zO 5 B w' (some ⟨g,0,none⟩) cap (ded l)/\w.grownBy w' (some g):=by
 refine zI 61 [.slice (some ⟨g,0,none⟩) l.length cap] Tryz.func194 ?_;rcases ho.inv with ⟨h,_⟩ | ⟨g',cur,hg,hB,hcur,hlc,hcm,hcs,hct⟩
 ·cases h
 simp only [Qb,Uz,Gu] at hg;subst hg;have hcs:cur.size=cap:=by rw [hcs];exact Gi _
 obtain⟨sp,hsp⟩:=nm (cur.toList.drop l.length);have hct:cur.toList.take l.length=l.flatMap zO.enc:=by rw [<- hct];congr 1;exact (Gi _).symm
 have hR:RowS zO 5 w g sp l:=by
  unfold RowS;rw [hcur,<- hct,hsp,JQ]
 have hspl:l.length+sp.length=cap:=by
  have h1:cur.toList.length=cap:=by rw [Array.length_toList];exact hcs
  rw [hsp,Qv,h1];omega
 refine biE (fun h=>?_) fun h=>?_
 ·have h:(l.length:Int)<2:=dT h;have e:ded l=l:=by
   match l,h with
   | [],_=>rfl
   | [x],_=>rfl
   | x::y::r,h=>simp at h;omega
  rw [e];exact⟨rfl,ho,jQ w _⟩
 have h:¬ (l.length:Int)<2:=dF h;have hl2:2<=l.length:=by omega
 refine⟨Nat,fun k=>⟨[(0,.slice (some ⟨g,0,none⟩) l.length cap),(3,i64 (k:Nat))],[]⟩,fun k X=>1<=k/\k<=l.length/\ded (l.take k)=l.take k/\RowS zO 5 X g sp l/\w.grownBy X (some g),fun k=>l.length-k,1,
  (cvE rfl rfl),⟨Gh _,by omega,by
   cases l with
   | nil=>rfl
   | cons x r=>rfl,hR,jQ w _⟩,?_⟩
 rintro k X ⟨hk1,hkl,hdk,hRX,gX⟩;refine biE (fun hc=>?_) fun hc=>?_
 ·have hc:(k:Int)<(l.length:Int):=dT hc;have hk:k<l.length:=by omega
  refine DrawE.ord [] [0,1,2,3,4,5,6,7,8,9] (by kernel_rfl) ?_;have hRd:RowS zO 5 X.drew g sp l:=hRX;have gd:w.grownBy X.drew (some g):=zg gX ⟨rfl,rfl,rfl,Gh _,fun _ _ _=>rfl⟩;refine⟨k,rfl,hk,_,zfg hRd hk,((k-1:Nat):Int),(zi (by omega)).trans (by omega),k-1,rfl,by omega,?_⟩;refine⟨_,zfg hRd (by omega),?_⟩;have hnx:=zkA (l:=l) hk1 hk;refine biE (fun he=>?_) fun he=>?_
  ·have he:l[k]=l[k-1]:=jc.1 (dT he);rw [GC he] at hnx;refine⟨k,rfl,by show k<=l.length;omega,?_⟩;have hcb:q8 (some ⟨g,0,none⟩) cap k 1=some ⟨g,k,none⟩:=by
    unfold q8;rw [GB (by omega)];show some ((⟨g,0,none⟩:Addr).add (k*1))=_;rw [zbk,Gi,Gb]
   refine⟨Nat×Nat×List UInt8,fun s=>⟨[(0,.slice (some ⟨g,0,none⟩) l.length cap),(3,i64 (s.2.1:Nat)),(4,.slice (some ⟨g,k,none⟩) (l.length-k) (cap-k)),(5,i64 (s.1:Nat))],[]⟩,
    fun s Y=>(1<=s.1/\k+s.1<=l.length)/\(s.2.1=(ded (l.take (k+s.1))).length/\s.2.1+1<=k+s.1)/\(s.2.2.length=l.length/\s.2.2.take s.2.1=ded (l.take (k+s.1))/\∀ j,s.2.1<=j->s.2.2[j]?=l[j]?)/\RowS zO 5 Y g sp s.2.2/\w.grownBy Y (some g),fun s=>l.length-s.1,(1,k,l),
    ⟨.cons rfl (.cons rfl (.cons (by rw [<- hcb];rfl) (.cons rfl .nil))),rfl⟩,⟨⟨Gh _,by show k+1<=_;omega⟩,⟨by show k=_;rw [hnx,hdk,Qw];omega,Gh _⟩,⟨rfl,by show l.take k=_;rw [hnx,hdk],fun j _=>rfl⟩,hRd,gd⟩,?_⟩
   rintro⟨m,q,M⟩ Y ⟨⟨hm1,hml⟩,⟨hq,hqm⟩,⟨hM,hMt,hMj⟩,hRY,gY⟩;dsimp only at hm1 hml hq hqm hM hMt hMj hRY ⊢;refine biE (fun hc=>?_) fun hc=>?_
   ·have hc:(m:Int)<((l.length-k:Nat):Int):=dT hc;have hi:k+m<l.length:=(by omega);have g1:M[k+m]?=some l[k+m]:=(by rw [hMj _ (by omega),gE hi]);have g0:M[k+m-1]?=some l[k+m-1]:=(by rw [hMj _ (by omega),gE (by omega)]);obtain⟨i1,e1⟩:=zkO g1;obtain⟨i0,e0⟩:=zkO g0;have nx:=zkA (l:=l) (i:=k+m) (by omega) hi;refine DrawE.ord [] [0,1,2,3,4,5,6,7,8,9] (by kernel_rfl) ?_;have hRYd:RowS zO 5 Y.drew g sp M:=hRY;have gYd:w.grownBy Y.drew (some g):=zg gY ⟨rfl,rfl,rfl,Gh _,fun _ _ _=>rfl⟩;have a1:Y.drew.cell? ⟨g,k+m*1,none⟩=some (u8 l[k+m]):=by
     have:=zfg hRYd i1;rw [e1,Gi,Gb] at this;rw [Gi];exact this
    have a0:Y.drew.cell? ⟨g,k+(m-1)*1,none⟩=some (u8 l[k+m-1]):=by
     have:=zfg hRYd i0;rw [e0,Gi,Gb] at this;rw [Gi,<- Nat.add_sub_assoc hm1];exact this
    refine⟨m,rfl,by omega,?_⟩;refine⟨_,a1,((m-1:Nat):Int),(zi (by omega)).trans (by omega),m-1,rfl,by omega,?_⟩;refine⟨_,a0,biE (fun hne=>?_) fun hne=>?_⟩
    ·have hne:¬ l[k+m]=l[k+m-1]:=fun e=>by
      have hne:(!decide (((l[k+m]).toNat:Int)=((l[k+m-1]).toNat:Int)))=true:=hne;rw [e,Ux rfl] at hne;cases hne
     rw [GB hne] at nx;refine⟨m,rfl,by omega,?_⟩;refine⟨_,a1,q,rfl,by omega,?_⟩;refine zm8 k5 rfl hRYd (i:=q) (by omega) l[k+m] fun Z hRZ gZ sZ=>nxI (by omega) (nxI (by omega) ⟨(m+1,q+1,M.set q l[k+m]),(cvE rfl rfl),⟨⟨by omega,by show k+(m+1)<=_;omega⟩,⟨?_,by show q+1+1<=k+(m+1);omega⟩,⟨by rw [QU];exact hM,?_,fun j hj=>?_⟩,hRZ,zg gYd gZ⟩,zdc (by omega)⟩)
     ·show q+1=(ded (l.take (k+(m+1)))).length;rw [<- UL,nx,lap,<- hq];rfl
     ·show (M.set q l[k+m]).take (q+1)=ded (l.take (k+(m+1)));rw [<- UL,nx,<- hMt];rw [tsg (by rw [QU];omega),List.take_set_of_le (Gh _),List.getElem_set_self]
     ·show (M.set q l[k+m])[j]?=l[j]?;have hj:q+1<=j:=hj;rw [JV (by omega)];exact hMj j (by omega)
    ·have heq:l[k+m]=l[k+m-1]:=by
      have hne:(!decide (((l[k+m]).toNat:Int)=((l[k+m-1]).toNat:Int)))=false:=hne;have h2:decide (((l[k+m]).toNat:Int)=((l[k+m-1]).toNat:Int))=true:=(by simpa using hne);exact jc.1 (dT h2)
     rw [GC heq] at nx;exact nxI (by omega) ⟨(m+1,q,M),(cvE rfl rfl),⟨⟨by omega,by show k+(m+1)<=_;omega⟩,⟨by show q=(ded (l.take (k+(m+1)))).length;rw [<- UL,nx];exact hq,by show q+1<=k+(m+1);omega⟩,⟨hM,by show M.take q=ded (l.take (k+(m+1)));rw [<- UL,nx];exact hMt,hMj⟩,hRYd,gYd⟩,zdc (by omega)⟩
   ·have hc:¬ (m:Int)<((l.length-k:Nat):Int):=dF hc;have hkm:k+m=l.length:=(by omega);rw [hkm,Qy] at hq hMt;refine⟨q,rfl,by show q<=l.length;omega,?_⟩;have hcb2:q8 (some ⟨g,0,none⟩) cap q 1=some ⟨g,q,none⟩:=by
     unfold q8;rw [GB (by omega)];show some ((⟨g,0,none⟩:Addr).add (q*1))=_;rw [zbk,Gi,Gb]
    have hfl:(M.flatMap zO.enc++sp).length=cap:=by
     rw [lap,qK,hM];show l.length*1+_=_;omega
    have hcl:SatR ((Builtin.clear_ #[72] 0 #[.slice (some ⟨g,q,none⟩) (l.length-q) (cap-q)]).run PG Y) fun _ Z=>Z.heap[g]?=some (.cells ((M.flatMap zO.enc++sp).take q++List.replicate (l.length-q) (u8 0)++(M.flatMap zO.enc++sp).drop (q+(l.length-q))).toArray 5 (0,0))/\Y.grownBy Z (some g) :=
     zn6 Tryz.underlying72 k5 rfl rfl (by omega) hRY (by show q+(l.length-q)<=(M.flatMap zO.enc++sp).length;rw [hfl];omega) fun Z fZ gZ sZ=>⟨fZ,gZ⟩
    obtain⟨v,Z,hrun,fZ,gZ⟩:=hcl;refine⟨v,Z,by rw [hcb2];exact hrun,?_⟩;refine⟨q,rfl,by show q<=cap;omega,?_⟩;rw [<- hq];refine⟨by show Ending.returned (Value.slice (q8 (some ⟨g,0,none⟩) cap 0 1) (q-0) (cap-0))=_;rw [zcW];rfl,?_,zg gY gZ⟩;unfold OwnS World.ownsRow;refine⟨by rw [qK],.inr ⟨g,cap,_,rfl,hB,fZ,by omega,hcm,?_,?_⟩⟩
    ·show (List.length _)=cap*1;rw [lap,lap,Qw,JM,Qv,hfl];omega
    ·rw [<- hq];show ((M.flatMap zO.enc++sp).take q++List.replicate (l.length-q) (u8 0)++(M.flatMap zO.enc++sp).drop (q+(l.length-q))).take (q*1)=_;rw [Gi,KR,Jg (by rw [Qw,hfl];omega),List.take_take,Nat.min_self,Jg (by rw [qK,hM];show q<=l.length*1;omega),<- hMt];have:=JQ q M;have e2:M.flatMap zO.enc=(M.take q).flatMap zO.enc++(M.drop q).flatMap zO.enc:=(by rw [<- Kg,JQ]);rw [e2,Ub (by rw [qK,Qw];show min q M.length*1=q;omega)]
  ·have he:¬ l[k]=l[k-1]:=fun e=>(dF he) (by rw [e]);rw [GB he,hdk] at hnx;exact nxI (by omega) ⟨k+1,(cvE rfl rfl),⟨by omega,hk,by rw [hnx,tsg hk],hRd,gd⟩,zdc (by omega)⟩
 ·have hc:¬ (k:Int)<(l.length:Int):=dF hc;obtain rfl:k=l.length:=by omega
  rw [Qy] at hdk;rw [hdk];refine⟨rfl,?_,gX⟩;unfold OwnS World.ownsRow;refine⟨by rw [qK],.inr ⟨g,cap,_,rfl,hB,hRX,by omega,hcm,?_,?_⟩⟩
  ·show (l.flatMap zO.enc++sp).length=cap*1;rw [lap,qK];show l.length*1+_=_;omega
  ·exact Ub (qK l)
end
def prE:Enc (Nat×Nat):=⟨fun x=>[u8 (UInt8.ofNat x.1),u8 (UInt8.ofNat x.2)],2,fun _=>rfl,by decide,fun a u hu=>by
 simp only [UJ,Qx,Gy] at hu;rcases hu with rfl | rfl <;> rfl⟩
def zgA:Enc Nat:=⟨fun x=>[s32 x],1,fun _=>rfl,by decide,fun a u hu=>by
 simp only [UJ,Qx,Gy] at hu;subst hu;rfl⟩
theorem zsP {s:Nat} {w:Wd} (hT:Tz32M w) (h0:s≠0) (h:s<2^32):Calls PG 267 #[s32 s] w fun e w'=>e = .returned (i64 (ctz s:Nat))/\w=w':=by
 refine zI 14 [s32 s] Tryz.func267 ?_;obtain⟨h2,h3⟩:=zhm h0 h;obtain⟨t1,t2⟩:=zoy h3;refine brN (Ul (fun e=>h0 (by omega))) ⟨((2^32-s:Nat):Int),by unfold IntKind.wrap;simp only [IntKind.bits,IntKind.signed,Un,Ku,Gx];omega,?_⟩;refine⟨((2^ctz s:Nat):Int),(zl8 (a:=s) (b:=2^32-s) h (by omega)).trans (by rw [h2]),?_⟩;refine⟨((2^ctz s*125613361%4294967296:Nat):Int),by
  have e:(((2^ctz s:Nat):Int)*125613361)=((2^ctz s*125613361:Nat):Int):=by rw [QM];rfl
  rw [e];generalize 2^ctz s*125613361=n;unfold IntKind.wrap;simp only [IntKind.bits,IntKind.signed,Un,Ku,Gx];omega,?_⟩
 refine⟨by decide,((2^ctz s*125613361%4294967296/2^27:Nat):Int),by
  generalize 2^ctz s*125613361%4294967296=n;show (n:Int).fdiv (2^(min (Int.toNat (27:Int)) IntKind.u32.bits))=_;rw [show min (Int.toNat (27:Int)) IntKind.u32.bits=27 from rfl,Int.fdiv_eq_ediv_of_nonneg _ (by decide)];omega,?_⟩
 refine⟨_,rfl,t1,?_⟩;have hv:(zhP.map u8)[2^ctz s*125613361%4294967296/2^27]?=some (u8 (UInt8.ofNat (ctz s))):=by rw [KW,t2];rfl
 refine⟨u8 (UInt8.ofNat (ctz s)),by rw [Gi];exact zc hT hv,?_⟩;have e:(UInt8.ofNat (ctz s)).toNat=ctz s:=by rw [KJ];omega
 exact⟨(ctz s:Int),by rw [e];exact zi (by omega),rfl,rfl⟩
def j0:Nat->List Nat->List (Nat×Nat)
 | _,[]=>[]
 | i,s::r=>(els s).map (fun a=>(a,i))++j0 (i+1) r
theorem zgJ (f:Nat->Nat):∀ (n i:Nat),j0 i ((List.range' i n).map f)=(List.range' i n).flatMap fun i=>(els (f i)).map fun a=>(a,i)
 | 0,i=>rfl
 | n+1,i=>by
  rw [List.range'_succ,UI,KU];show (els (f i)).map _++j0 (i+1) _=_;rw [zgJ f n (i+1)]
theorem zfs (f:Nat->Nat) (n:Nat):j0 0 ((List.range n).map f)=j9 f n:=by
 unfold j9;rw [List.range_eq_range'];exact zgJ f n 0
theorem zlo (l:List Nat) (x:Nat):∀ i,j0 i (l++[x])=j0 i l++(els x).map (fun a=>(a,i+l.length)):=by
 induction l with
 | nil=>intro i;show (els x).map _++[]=_;rw [QO];rfl
 | cons y r ih =>
  intro i;show (els y).map _++j0 (i+1) (r++[x])=((els y).map _++j0 (i+1) r)++_;rw [ih,KR,Qu];congr 3;funext a;congr 1;omega
theorem zh6:∀ (l:List Nat) (i:Nat),(j0 i l).length<=64*l.length
 | [],_=>Gj _
 | x::r,i=>by
  show ((els x).map _++j0 (i+1) r).length<=_;rw [lap,QS,Qu];have h1:=zh6 r (i+1);have h2:=zdQ x;omega
section
variable {p:OA} {cap:Nat} {l:List Nat} {w:Wd}
theorem ziS (hl:SlR zgA w p l) (hn:l.length<=24) (hb:∀ x∈l,x<2^32) (hT:Tz32M w) :
  Calls PG 230 #[.slice p l.length cap] w fun e w'=>(∃ q c,e = .returned (.slice q (j0 0 l).length c)/\OwnS prE 326 w.heap.size w' q c (j0 0 l))/\Bw w w':=by
 refine zI 30 [.slice p l.length cap] Tryz.func230 ?_;refine⟨Nat×OA×Nat,fun s=>⟨[(3,.slice s.2.1 (j0 0 (l.take s.1)).length s.2.2),(6,.slice p l.length cap),(7,i64 l.length),(8,i64 (s.1:Nat))],[]⟩,
  fun s X=>s.1<=l.length/\OwnS prE 326 w.heap.size X s.2.1 s.2.2 (j0 0 (l.take s.1))/\Bw w X,fun s=>l.length-s.1,(0,none,0),
  (cvE rfl rfl),⟨Gj _,OwnS.nil,Gm _ _⟩,?_⟩
 rintro⟨k,q,c⟩ X ⟨hk,ho,hbX⟩;dsimp only at hk ho ⊢;refine biE (fun hc=>?_) fun hc=>?_
 ·have hc:(k:Int)<(l.length:Int):=dT hc;have hkl:k<l.length:=by omega
  obtain⟨b,o,hp,hlt',hat⟩:=(hl.below hbX).at hkl;have ep:some (Value.slice p l.length cap)=some (Value.slice (some ⟨b,o,none⟩) l.length cap):=by rw [hp]
  subst hp;refine⟨k,rfl,hkl,s32 l[k],by have:=zc (hat k hkl) (i:=0) (v:=s32 l[k]) rfl;exact this,?_⟩;have hlk:=hb _ (gM hkl);have htl:(l.take k).length=k:=by rw [Qw];omega
  have hpl:=zh6 (l.take k) 0;have tk:l.take (k+1)=l.take k++[l[k]]:=tsg hkl;refine⟨Nat×List (Nat×Nat)×OA×Nat,fun s=>⟨[(3,.slice s.2.2.1 s.2.1.length s.2.2.2),(4,i64 (k:Nat)),(5,s32 s.1),(6,.slice (some ⟨b,o,none⟩) l.length cap),(7,i64 l.length),(8,i64 (k:Nat))],[]⟩,
   fun s Y=>(j0 0 (l.take (k+1))=s.2.1++(els s.1).map (fun a=>(a,k))/\s.1<2^32/\s.2.1.length+(els s.1).length<=64*(k+1))/\OwnS prE 326 w.heap.size Y s.2.2.1 s.2.2.2 s.2.1/\Bw w Y,fun s=>s.1,(l[k],j0 0 (l.take k),q,c),
   (cvE rfl rfl),⟨⟨by rw [tk,zlo,htl,Gb],hlk,by have:=zdQ l[k];show (j0 0 (l.take k)).length+(els l[k]).length<=_;omega⟩,ho,hbX⟩,?_⟩
  rintro⟨s,m,q,c⟩ Y ⟨⟨he,hs,hlen⟩,ho,hbY⟩;dsimp only at he hs hlen ho ⊢;refine biE (fun hc=>?_) fun hc=>?_
  ·have hc:(!decide ((s:Int)=0))=true:=hc;have h0:s≠0:=fun e=>by
    subst e;exact GD hc (by decide)
   have hs64:s<2^64:=nL hs (by decide);obtain⟨e1,e2,_,_⟩:=jD h0 hs64;obtain⟨_,hc32⟩:=zhm h0 hs;rw [e1] at hlen;refine cmo (zsP (hT.below hbY) h0 hs) ?_;rintro e _ ⟨rfl,rfl⟩;refine⟨_,w8N _,_,w8N _,prE.enc (ctz s,k),rfl,⟨by decide,by decide,rfl⟩,prE.enc (ctz s,k),zbh rfl rfl,?_⟩;have hba:Bw Y (Y.alloc (.cells (prE.enc (ctz s,k)).toArray 326)):=zba _ _;simp only [Qu] at hlen;refine qQ (E:=prE) (T:=326) (B:=w.heap.size) (l:=m) (news:=[(ctz s,k)]) (cap:=c) (m:=1) Tryz.underlying239 zu3 rfl rfl rfl (ho.below hba) rfl (qt prE (ctz s,k)) (by have:=hbY.size;have:=hba.size;omega) (by omega) (by show (m.length+1)*2<=_;omega) ?_;intro p2 c2 Z oZ gZ hbZ hat2;refine⟨((s-1:Nat):Int),(w32 (a:=(s:Int)-1) (by omega)).trans (by omega),((qI s:Nat):Int),zl8 (a:=s) (b:=s-1) hs (by omega),(qI s,m++[(ctz s,k)],p2,c2),(cvE rfl rfl),⟨⟨?_,by show qI s<_;omega,?_⟩,oZ,((zst hbY hba)).trans hbZ⟩,e2⟩
   ·rw [he,e1,UI,KR];rfl
   ·simp only [lap,Qu,QT];omega
  ·have hc:(!decide ((s:Int)=0))=false:=hc;have h0:s=0:=by
    have h1:decide ((s:Int)=0)=true:=(by simpa using hc);exact UF (dT h1)
   subst h0;rw [zbX,UQ,QO] at he;exact nxI (by omega) ⟨(k+1,q,c),⟨.cons (by rw [he];rfl) (.cons rfl (.cons rfl (.cons rfl .nil))),rfl⟩,⟨hkl,by show OwnS prE _ _ _ _ _ (j0 0 (l.take (k+1)));rw [he];exact ho,hbY⟩,zdc (by omega)⟩
 ·have hc:¬ (k:Int)<(l.length:Int):=dF hc;obtain rfl:k=l.length:=by omega
  rw [Qy] at ho;refine⟨⟨q,c,by rw [Qy];rfl,ho⟩,hbX⟩
theorem ziC {p:OA} {cap:Nat} {l:List Ev} {w:Wd} (hl:SlR evE w p l) (hn:l.length<=100000) (hc:p=none->cap=0) :
  Calls PG 143 #[.slice p l.length cap] w fun e w'=>(∃ q c,e = .returned (.slice q l.length c)/\OwnS evE 158 w.heap.size w' q c l)/\Bw w w':=by
 refine zI 8 [.slice p l.length cap] Tryz.func143 ?_;refine⟨_,fun w=>ztz Tryz.underlying25 _ _ p l.length cap w,?_⟩
 cases p with
 | none =>
  refine brT ?_;have e:=hl.none;subst e;exact⟨⟨none,0,rfl,OwnS.nil⟩,Gm _ _⟩
 | some a =>
  refine brF ⟨⟨by decide,by decide,rfl⟩,[],rfl,?_⟩;have hb0:Bw w (w.alloc (.cells #[] 158)):=zba w _;refine zgt (E:=evE) (T:=158) (B:=w.heap.size) (l:=[]) (news:=l) (cap:=0) Tryz.underlying25 zdU rfl rfl rfl zgL rfl (hl.below hb0) (fun h=>by cases h) hb0.size (by simp;omega) (by show (0+l.length)*16<=_;omega) ?_;intro p' cap' w' ho hg hbw;exact⟨⟨p',cap',rfl,ho⟩,hb0.trans hbw⟩
end
theorem zeq {p:OA} {cap:Nat} {l:List UInt8} {w:Wd} (hl:SlR zO w p l) (h1:1<=l.length) (h12:l.length<=12) (hs:zd7 l=true) :
  Calls PG 135 #[.slice p l.length cap] w fun e w'=>(∃ q c,e = .returned (.slice q (ded l).length c)/\OwnS zO 5 w.heap.size w' q c (ded l))/\Bw w w':=by
 refine zI 9 [.slice p l.length cap] Tryz.func135 ?_;refine cmo (zkY hl (by omega) (fun e=>by subst e;have:=hl.none;subst this;simp at h1)) ?_;rintro e X ⟨⟨q,c,rfl,ho⟩,hbX⟩;rcases ho.inv with ⟨_,_,h0⟩ | ⟨g,cur,rfl,hB,_⟩
 ·rw [h0] at h1;simp at h1
 refine cmo (zsf ho.row h12 hs) ?_;rintro e Y ⟨rfl,hbY⟩;have hbY':Bw X Y:=⟨hbY.os,hbY.tape,hbY.output,hbY.size,hbY.block⟩;refine cmo (zl2 (ho.below hbY) (by omega)) ?_;rintro e Z ⟨rfl,oZ,gZ⟩;have hwX:=hbX.size;exact⟨⟨_,_,rfl,oZ⟩,(hbX.trans (hbY.mono hwX)).trans (zo gZ (UX hwX hbY.size) hB)⟩
def zhH (P:PathD) (q1:OA) (c1:Nat) (q2:OA) (c2:Nat) (q3:OA) (c3:Nat) (q4:OA) (c4:Nat):List Value :=
 [.slice q1 P.ev.length c1,.slice q2 P.data.length c2,.slice q3 P.ctrl.length c3,.slice q4 P.rmw.length c4]++seg 8 (fun i=>u8 (P.regs i))
theorem zjS (P:PathD) (q1 c1 q2 c2 q3 c3 q4 c4):(zhH P q1 c1 q2 c2 q3 c3 q4 c4).all Value.oneCell'=true:=by
 unfold zhH;rw [QN,zbv fun _=>rfl];rfl
theorem zjT (P:PathD) (q1 c1 q2 c2 q3 c3 q4 c4):(zhH P q1 c1 q2 c2 q3 c3 q4 c4).length=12:=by
 unfold zhH;rw [lap,zK];rfl
def zt0 (R:RunD):Prop:=∀ i,i<R.many->R.data i<2^32/\R.ctrl i<2^32/\R.att i<2^32
section
variable {R:RunD} {b:Nat} {w:Wd}
theorem zng {X:Wd} {o n m:Nat} {f:Nat->Nat} (hb:b<X.heap.size) (h:∀ i,i<n->X.cell? ⟨b,o+i,none⟩=some (s32 (f i))) (hm:m<=n):SlR zgA X (some ⟨b,o,none⟩) ((List.range m).map f):=by
 refine .inr ⟨b,o,rfl,hb,fun i hi=>?_⟩;have hi:i<m:=by simpa using hi
 rw [Qs,KA];refine qM fun j v hv=>?_
 cases j with
 | zero =>
  have hv:s32 (f i)=v:=by simpa [zgA] using hv
  rw [<- hv];show X.cell? ⟨b,o+i*1+0,none⟩=_;rw [Gi,UU];exact h i (by omega)
 | succ j=>simp [zgA] at hv
theorem zrL {X:Wd} {m:Nat} (f:zaF X b R) (hm:m<=24):SlR evE X (some ⟨b,19,none⟩) ((List.range m).map R.ev):=by
 have hc:=zme f;refine .inr ⟨b,19,rfl,hlt f,fun i hi=>?_⟩;have hi:i<m:=by simpa using hi
 rw [Qs,KA,<- zpZ R.ev (show i<24 by omega)];exact zN hc
theorem zs8 (f:zaF w b R) (hm:R.many<=24) (hB:zt0 R) (hT:Tz32M w) :
  Calls PG 197 #[AtR b] w fun e w'=>(∃ q1 c1 q2 c2 q3 c3 q4 c4,e = .returned (.agg (zhH (zcw R) q1 c1 q2 c2 q3 c3 q4 c4).toArray)/\OwnS evE 158 w.heap.size w' q1 c1 (zcw R).ev/\OwnS prE 326 w.heap.size w' q2 c2 (zcw R).data/\OwnS prE 326 w.heap.size w' q3 c3 (zcw R).ctrl/\OwnS prE 326 w.heap.size w' q4 c4 (zcw R).rmw)/\Bw w w':=by
 refine zI 44 [AtR b] Tryz.func197 ?_;obtain⟨Z0,hZ0⟩:∃ Z0:List Value,Z0=zhH ⟨[],[],[],[],fun _=>0⟩ none 0 none 0 none 0 none 0:=⟨_,rfl⟩;have f0:=zt w (.cells Z0.toArray 241);have hb0:Bw w (w.alloc (.cells Z0.toArray 241)):=zba w _;obtain⟨X,hX⟩:=nm ((w.alloc (.cells Z0.toArray 241)).drew);have hbX:Bw w X:=by rw [hX];exact hb0.drew
 have f0X:X.heap[w.heap.size]?=some (.cells Z0.toArray 241 (0,0)):=by rw [hX];exact f0
 have fX:=zb hbX f;have hX':(w.alloc (.cells (#[.slice none 0 0,.slice none 0 0,.slice none 0 0,.slice none 0 0,.int .u8 0,.int .u8 0,.int .u8 0,.int .u8 0,.int .u8 0,.int .u8 0,.int .u8 0,.int .u8 0]:Array Value) 241)).drew=X:=by rw [hX,hZ0];rfl
 refine DrawE.ord [41] [0,1,2,3,4,5,6,7,9,10,11,12,13,14,15,16,18,19,20,21,22,23,24,25,27,28,29,30,31,32,33,34,36,37,38,39,8,17,26,35,40,41] (by kernel_rfl) ?_;have cut:∀ (o e:Nat),Value.slice (q8 (some ⟨b,0+o,none⟩) 24 0 e) (R.many-0) (24-0) = .slice (some ⟨b,o,none⟩) R.many 24:=fun o e=>by rw [zcW,Gb];rfl
 have lm:∀ {α:Type} (g:Nat->α),((List.range R.many).map g).length=R.many:=fun g=>by rw [QS,KX]
 have hbx:=hlt fX;have sd:∀ {o:Nat} {g:Nat->Nat},(∀ i,i<24->(q7 R)[o+i]?=some (s32 (g i)))->SlR zgA X (some ⟨b,o,none⟩) ((List.range R.many).map g):=fun {o g} h=>zng hbx (fun i hi=>by
  have:=zc (za fX) (h i hi);rw [Gb] at this;exact this) hm
 rw [hX'];refine⟨_,zc (za fX) (i:=18) (zbM R),R.many,rfl,hm,_,zc (za fX) (i:=18) (zbM R),R.many,rfl,hm,_,zc (za fX) (i:=18) (zbM R),R.many,rfl,hm,_,zc (za fX) (i:=18) (zbM R),R.many,rfl,hm,seg 8 (fun i=>u8 (R.regs i)),zK _ _,?_,hbx,?_⟩
 ·have:=zN (n:=1) (m:=8) (za fX);have e:((q7 R).toArray.toList.drop 1).take 8=seg 8 (fun i=>u8 (R.regs i)):=by
   show (seg 8 (fun i=>u8 (R.regs i))++_).take 8=_;exact Ub (zK _ _)
  rw [e] at this;exact this
 have c1:=ziC (w:=X) (cap:=24) (zrL fX hm) (by rw [lm];omega) (fun h=>by cases h);rw [lm,<- cut 19 7] at c1;refine cmo c1 ?_;rintro e Y1 ⟨⟨q1,k1,rfl,o1⟩,hb1⟩;refine⟨hb1,?_⟩;have hw1:=zst hbX hb1;have c2:=ziS (w:=Y1) (cap:=24) ((sd (o:=187) (g:=R.data) fun i hi=>zoV R hi).below hb1) (by rw [lm];exact hm) (fun x hx=>by
  obtain⟨i,hi,rfl⟩:=US.1 hx;exact (hB i (Ut.1 hi)).1) (hT.below hw1)
 rw [lm,<- cut 187 1,zfs] at c2;refine cmo c2 ?_;rintro e Y2 ⟨⟨q2,k2,rfl,o2⟩,hb2⟩;refine⟨hb2,?_⟩;have hx2:=zst hb1 hb2;have hw2:=zst hbX hx2;have c3:=ziS (w:=Y2) (cap:=24) ((sd (o:=211) (g:=R.ctrl) fun i hi=>zoW R hi).below hx2) (by rw [lm];exact hm) (fun x hx=>by
  obtain⟨i,hi,rfl⟩:=US.1 hx;exact (hB i (Ut.1 hi)).2.1) (hT.below hw2)
 rw [lm,<- cut 211 1,zfs] at c3;refine cmo c3 ?_;rintro e Y3 ⟨⟨q3,k3,rfl,o3⟩,hb3⟩;refine⟨hb3,?_⟩;have hx3:=zst hx2 hb3;have hw3:=zst hbX hx3;have c4:=ziS (w:=Y3) (cap:=24) ((sd (o:=235) (g:=R.att) fun i hi=>zq2 R hi).below hx3) (by rw [lm];exact hm) (fun x hx=>by
  obtain⟨i,hi,rfl⟩:=US.1 hx;exact (hB i (Ut.1 hi)).2.2) (hT.below hw3)
 rw [lm,<- cut 235 1,zfs] at c4;refine cmo c4 ?_;rintro e Y4 ⟨⟨q4,k4,rfl,o4⟩,hb4⟩;refine⟨hb4,?_⟩;have hx4:=zst hx3 hb4;have hw4:=zst hbX hx4;have le1:(zcw R).ev.length=R.many:=lm _;obtain⟨cs,hcs⟩:=nm (zhH (zcw R) q1 k1 q2 k2 q3 k3 q4 k4);refine⟨cs,by rw [hcs];unfold zhH;rw [le1];rfl,?_⟩;have f4:=zb hx4 f0X;have hone:cs.all Value.oneCell'=true:=by rw [hcs];exact zjS ..
 have hlen:cs.length=12:=by rw [hcs];exact zjT ..
 refine zr (v := .agg cs.toArray) znO f4 hlen (by rw [hZ0];rfl) hone ?_;have f5:=zm (cs':=(Value.agg cs.toArray).cells) f4;have hs:w.heap.size<=X.heap.size:=hbX.size;have keep:∀ {α:Type} {E:Enc α} {T B c:Nat} {p:OA} {l:List α},X.heap.size<=B->OwnS E T B Y4 p c l->OwnS E T w.heap.size (Y4.setRow w.heap.size (Value.agg cs.toArray).cells) p c l:=fun {α E T B c p l} hB o=>by
  refine OwnS.lower (o.kept (qx Y4 w.heap.size _) fun g hg e=>?_) (UX hs hB);rcases o.inv with ⟨h,_⟩ | ⟨g',cur,h,h2,_⟩
  ·rw [h] at hg;cases hg
  ·rw [h] at hg;simp only [Qb,Uz,Gu] at hg e;have:=hlt f0X;omega
 have n1:=hb1.size;have n2:=hb2.size;have n3:=hb3.size;refine⟨cs,hlen,za f5,⟨q1,k1,q2,k2,q3,k3,q4,k4,by rw [hcs];rfl,keep (Gh _) (((o1.below hb2).below hb3).below hb4),keep (by omega) ((o2.below hb3).below hb4),keep (by omega) (o3.below hb4),keep (by omega) o4⟩,zk hw4 (Gh _) _⟩
end
theorem jX (c : UInt8) (w : Wd) : Calls PG 239 #[u8 c] w fun e w' => e = .returned (i64 (zZ c)) ∧ w = w' := by
  refine zht (S := sg 47) (za9 _) (args := [u8 c]) (.s .p (.c .p .p)) Tryz.func239 rfl rfl (JS rfl) rfl ?_
  refine ⟨Unit, fun _ => ⟨[(0, u8 c)], []⟩, fun _ X => zfX c = false ∧ zg6 c = false ∧ w = X, ?_, ?_⟩
  · repeat first
      | exact ⟨(), ⟨.cons rfl .nil, rfl⟩, by unfold zfX; simp only [*]; rfl, by unfold zg6; simp only [*]; rfl, rfl⟩
      | exact ⟨by
          first
          | (have e : zfX c = true := by unfold zfX; simp only [*]; rfl
             unfold zZ; rw [e]; rfl)
          | (have e1 : zfX c = false := by unfold zfX; simp only [*]; rfl
             have e2 : zg6 c = true := by unfold zg6; simp only [*]; rfl
             unfold zZ; rw [e1, e2]; rfl), rfl⟩
      | refine brT ?_
      | refine brF ?_
      | refine brE (by assumption) ?_
      | refine brN (by assumption) ?_
      | refine Gs (fun h => ?_) (fun h => ?_)
  rintro _ _ ⟨h1, h2, rfl⟩
  have key : zZ c = (bif eqB c 32 || eqB c 9 then 1 else bif eqB c 10 then 2 else bif eqB c 95 then 5 else bif eqB c 35 then 7 else bif zmw c then 6 else 0) := by unfold zZ; rw [h1, h2]; rfl
  rw [key]
  clear key h1 h2
  unfold zmw
  refine Gs (fun h => ?_) (fun h => ?_)
  · have h : eqB c 32 = true := h
    refine brE h ?_
    exact ⟨by rw [h]; rfl, rfl⟩
  have h32 : eqB c 32 = false := h
  refine Gs (fun h => ?_) (fun h => ?_)
  · have h : eqB c 9 = true := h
    exact ⟨by rw [h32, h]; rfl, rfl⟩
  have h9 : eqB c 9 = false := h
  refine Gs (fun h => ?_) (fun h => ?_)
  · have h : eqB c 10 = true := h
    exact ⟨by rw [h32, h9, h]; rfl, rfl⟩
  have h10 : eqB c 10 = false := h
  refine Gs (fun h => ?_) (fun h => ?_)
  · have h : eqB c 95 = true := h
    exact ⟨by rw [h32, h9, h10, h]; rfl, rfl⟩
  have h95 : eqB c 95 = false := h
  refine Gs (fun h => ?_) (fun h => ?_)
  · have h : eqB c 35 = true := h
    exact ⟨by rw [h32, h9, h10, h95, h]; rfl, rfl⟩
  have h35 : eqB c 35 = false := h
  rw [h32, h9, h10, h95, h35]
  refine Gs (fun h => ?_) (fun h => ?_)
  · have h : eqB c 61 = true := h
    refine brE h ?_
    exact ⟨by rw [h]; rfl, rfl⟩
  have h61 : eqB c 61 = false := h
  refine Gs (fun h => ?_) (fun h => ?_)
  · have h : eqB c 43 = true := h
    refine brE h ?_
    exact ⟨by rw [h61, h]; rfl, rfl⟩
  have h43 : eqB c 43 = false := h
  refine Gs (fun h => ?_) (fun h => ?_)
  · have h : eqB c 45 = true := h
    refine brE h ?_
    exact ⟨by rw [h61, h43, h]; rfl, rfl⟩
  have h45 : eqB c 45 = false := h
  refine Gs (fun h => ?_) (fun h => ?_)
  · have h : eqB c 94 = true := h
    refine brE h ?_
    exact ⟨by rw [h61, h43, h45, h]; rfl, rfl⟩
  have h94 : eqB c 94 = false := h
  refine Gs (fun h => ?_) (fun h => ?_)
  · have h : eqB c 38 = true := h
    refine brE h ?_
    exact ⟨by rw [h61, h43, h45, h94, h]; rfl, rfl⟩
  have h38 : eqB c 38 = false := h
  refine Gs (fun h => ?_) (fun h => ?_)
  · have h : eqB c 124 = true := h
    refine brE h ?_
    exact ⟨by rw [h61, h43, h45, h94, h38, h]; rfl, rfl⟩
  have h124 : eqB c 124 = false := h
  refine Gs (fun h => ?_) (fun h => ?_)
  · have h : eqB c 33 = true := h
    refine brE h ?_
    exact ⟨by rw [h61, h43, h45, h94, h38, h124, h]; rfl, rfl⟩
  have h33 : eqB c 33 = false := h
  refine Gs (fun h => ?_) (fun h => ?_)
  · have h : eqB c 40 = true := h
    refine brE h ?_
    exact ⟨by rw [h61, h43, h45, h94, h38, h124, h33, h]; rfl, rfl⟩
  have h40 : eqB c 40 = false := h
  refine Gs (fun h => ?_) (fun h => ?_)
  · have h : eqB c 41 = true := h
    refine brE h ?_
    exact ⟨by rw [h61, h43, h45, h94, h38, h124, h33, h40, h]; rfl, rfl⟩
  have h41 : eqB c 41 = false := h
  refine Gs (fun h => ?_) (fun h => ?_)
  · have h : eqB c 58 = true := h
    refine brE h ?_
    exact ⟨by rw [h61, h43, h45, h94, h38, h124, h33, h40, h41, h]; rfl, rfl⟩
  have h58 : eqB c 58 = false := h
  refine Gs (fun h => ?_) (fun h => ?_)
  · have h : eqB c 60 = true := h
    exact ⟨by rw [h61, h43, h45, h94, h38, h124, h33, h40, h41, h58, h]; rfl, rfl⟩
  have h60 : eqB c 60 = false := h
  exact ⟨by rw [h61, h43, h45, h94, h38, h124, h33, h40, h41, h58, h60]; rfl, rfl⟩
theorem zko (c : UInt8) (w : Wd) : Calls PG 241 #[u8 c] w fun e w' => e = .returned (.bool (qw c)) ∧ w = w' := by
  refine qZ (S := sg 16) (za9 _) (args := [u8 c]) Tryz.func241 rfl rfl (JS rfl) rfl ?_
  refine Gn (jX c w) ?_
  rintro e _ ⟨rfl, rfl⟩
  have e3 : ∀ k : Nat, decide ((zZ c : Int) = (k : Int)) = decide (zZ c = k) := fun k => by rw [QJ]; omega
  refine Gs (fun h => ?_) (fun h => ?_)
  · have h : decide (zZ c = 3) = true := (e3 3).symm.trans h
    refine Gs (fun _ => ?_) (fun h => by cases h)
    exact ⟨rb (by unfold qw; rw [h]; rfl), rfl⟩
  have h3 : decide (zZ c = 3) = false := (e3 3).symm.trans h
  refine Gs (fun h => ?_) (fun h => ?_)
  · have h : decide (zZ c = 4) = true := (e3 4).symm.trans h
    exact ⟨rb (by unfold qw; rw [h3, h]; rfl), rfl⟩
  have h4 : decide (zZ c = 4) = false := (e3 4).symm.trans h
  exact ⟨rb (by unfold qw; rw [h3, h4]; exact e3 5), rfl⟩
theorem zbL {p:UInt8->Bool} {s:List UInt8} {k:Nat} (h:k<s.length):jF p (s.drop k)=if p s[k] then jF p (s.drop (k+1))+1 else 0:=by
 rw [Jo h];rfl
theorem zge {p:UInt8->Bool} {s:List UInt8} {k:Nat} (h:s.length<=k):jF p (s.drop k)=0:=by
 rw [JA h];rfl
theorem zkp {p:UInt8->Bool} (s:List UInt8) (k:Nat) (h:k<=s.length):k+jF p (s.drop k)<=s.length:=by
 have:=zjH p (s.drop k);rw [Qv] at this;omega
theorem zcf {a b:Nat}:decide ((a:Int)=(b:Int))=decide (a=b):=by rw [QJ];omega
theorem zcC {s:List UInt8} {k:Nat} (h:k<s.length):(bs s).data.toList[k]?=some s[k]:=by
 show s[k]?=_;exact gE h
theorem ziV {g a:Nat} {s:List UInt8} {w:Wd} (h:zq w ⟨g,0,none⟩ [zx s,i64 a]) :
  CB 283 #[At0 g] w (.bool (decide (s.length<=a))):=by
 refine zI 13 [At0 g] Tryz.func283 ?_;refine DrawE.ord [] [0,1,2,3,4,5,6,7,8,9,10] (by kernel_rfl) ?_;have h:zq w.drew ⟨g,0,none⟩ [zx s,i64 a]:=zL rfl h;refine⟨_,zc h (i:=1) rfl,_,zc h (i:=0) rfl,rb ?_,(Gm _ _).drew⟩;show decide ((s.length:Int)<=(a:Int))=_;rw [QJ];omega
theorem zmQ {g a:Nat} {s:List UInt8} {w:Wd} (h:zq w ⟨g,0,none⟩ [zx s,i64 a]) (hg:g<w.heap.size) :
  CB 281 #[At0 g] w (.bool (j3 s a)):=by
 refine zI 18 [At0 g] Tryz.func281 ?_;refine DrawE.ord [] [0,1,2,3,4,5,6,7,8,9,10,11,12,13,14,15] (by kernel_rfl) ?_;have h:zq w.drew ⟨g,0,none⟩ [zx s,i64 a]:=zL rfl h;refine cmo (ziV h) ?_;rintro e V ⟨rfl,hb⟩;refine⟨hb,?_⟩;have hw:=(Gm w.heap.size w).drew.trans hb;have hV:=ja hb hg h;refine biE (fun ho=>?_) fun ho=>?_
 ·have ho:s.length<=a:=dT ho;have:j3 s a=true:=by unfold j3;rw [JJ ho]
  exact⟨rb this.symm,hw⟩
 ·have ho:¬ s.length<=a:=dF ho;have hl:a<s.length:=by omega
  refine⟨_,zc hV (i:=0) rfl,_,zc hV (i:=1) rfl,a,rfl,hl,s[a],zcC hl,cmo (jX _ _) ?_⟩;rintro e _ ⟨rfl,rfl⟩;refine⟨Gm _ _,?_⟩;have:j3 s a=decide (zZ s[a]=2):=by unfold j3;rw [gE hl]
  exact⟨rb (by rw [this];exact zcf),hw⟩
theorem zm3 {g a:Nat} {s:List UInt8} {w:Wd} (h:zq w ⟨g,0,none⟩ [zx s,i64 a]) (ha:a<s.length) (hs:s.length<=140737488351232) :
  Calls PG 295 #[At0 g] w fun e w'=>e = .returned (i64 (a+1+jF qw (s.drop (a+1)):Nat))/\w=w':=by
 refine zI 28 [At0 g] Tryz.func295 ?_;refine⟨_,zc h (i:=1) rfl,(a+1:Nat),(zi (by omega)).trans (by omega),Nat,fun k=>⟨[(0,At0 g),(3,.int .i64 (k:Nat))],[]⟩,fun k X=>k<=s.length/\k+jF qw (s.drop k)=a+1+jF qw (s.drop (a+1))/\w=X,fun k=>s.length-k,a+1,(cvE rfl rfl),⟨ha,rfl,rfl⟩,?_⟩;rintro k _ ⟨hk,he,rfl⟩;dsimp only at hk he ⊢;refine⟨_,zc h (i:=0) rfl,biE (fun hc=>?_) fun hc=>?_⟩
 ·have hc:(k:Int)<(s.length:Int):=dT hc;have hl:k<s.length:=by omega
  refine⟨_,zc h (i:=0) rfl,k,rfl,hl,s[k],zcC hl,cmo (zko _ _) ?_⟩;rintro e _ ⟨rfl,rfl⟩;refine biE (fun hi=>?_) fun hi=>?_
  ·refine⟨(k+1:Nat),(zi (by omega)).trans (by omega),k+1,(cvE rfl rfl),⟨hl,?_,rfl⟩,zdc (by omega)⟩;rw [zbL hl,GC hi] at he;omega
  ·have hi:¬ qw s[k]=true:=by rw [Qk];exact hi
   rw [zbL hl,GB hi] at he;exact⟨by rw [<- he];rfl,rfl⟩
 ·have hc:¬ (k:Int)<(s.length:Int):=dF hc;refine Gs (fun h=>by cases h) (fun _=>?_);rw [zge (by omega)] at he;exact⟨by rw [<- he];rfl,rfl⟩
theorem zj6 {g a:Nat} {s:List UInt8} {w:Wd} (h:zq w ⟨g,0,none⟩ [zx s,i64 a]) (ha:a<s.length) (hs:s.length<=140737488351232) :
  Calls PG 296 #[At0 g] w fun e w'=>e = .returned (i64 (a+1+jF zbo (s.drop (a+1)):Nat))/\w=w':=by
 refine zI 29 [At0 g] Tryz.func296 ?_;refine⟨_,zc h (i:=1) rfl,(a+1:Nat),(zi (by omega)).trans (by omega),Nat,fun k=>⟨[(0,At0 g),(3,.int .i64 (k:Nat))],[]⟩,fun k X=>k<=s.length/\k+jF zbo (s.drop k)=a+1+jF zbo (s.drop (a+1))/\w=X,fun k=>s.length-k,a+1,(cvE rfl rfl),⟨ha,rfl,rfl⟩,?_⟩;rintro k _ ⟨hk,he,rfl⟩;dsimp only at hk he ⊢;refine⟨_,zc h (i:=0) rfl,biE (fun hc=>?_) fun hc=>?_⟩
 ·have hc:(k:Int)<(s.length:Int):=dT hc;have hl:k<s.length:=by omega
  refine⟨_,zc h (i:=0) rfl,k,rfl,hl,s[k],zcC hl,cmo (jX _ _) ?_⟩;rintro e _ ⟨rfl,rfl⟩;have hd:decide ((zZ s[k]:Int)=4)=zbo s[k]:=zcf (b:=4);refine biE (fun hi=>?_) fun hi=>?_
  ·refine⟨(k+1:Nat),(zi (by omega)).trans (by omega),k+1,(cvE rfl rfl),⟨hl,?_,rfl⟩,zdc (by omega)⟩;rw [zbL hl,GC (hd.symm.trans hi)] at he;omega
  ·have hi:¬ zbo s[k]=true:=by rw [Qk];exact hd.symm.trans hi
   rw [zbL hl,GB hi] at he;exact⟨by rw [<- he];rfl,rfl⟩
 ·have hc:¬ (k:Int)<(s.length:Int):=dF hc;refine Gs (fun h=>by cases h) (fun _=>?_);rw [zge (by omega)] at he;exact⟨by rw [<- he];rfl,rfl⟩
def zgz (s:List UInt8) (a:Nat) (c:UInt8):Nat:=if (eqB c 61||eqB c 33)&&decide (s[a+1]?=some 61) then a+2 else a+1
theorem zne {g a:Nat} {s:List UInt8} {w:Wd} (h:zq w ⟨g,0,none⟩ [zx s,i64 a]) (ha:a<s.length) (hs:s.length<=140737488351232) :
  CB 294 #[At0 g] w (i64 (zgz s a s[a])):=by
 refine zU 46 [At0 g] (.s .p (.s .p (.s .p (.c .p .p)))) Tryz.func294 ?_;refine⟨_,zc h (i:=1) rfl,(a+1:Nat),(zi (by omega)).trans (by omega),DrawE.ord [] [0,1,2,3,4,5,6,7,8,9] (by kernel_rfl) ?_⟩;have hd:zq w.drew ⟨g,0,none⟩ [zx s,i64 a]:=zL rfl h;refine⟨_,zc hd (i:=0) rfl,_,zc hd (i:=1) rfl,a,rfl,ha,s[a],zcC ha,Unit,fun _=>⟨[(3,i64 (zgz s a s[a]))],[]⟩,fun _ X=>X=w.drew,?_,?_⟩
 ·have no:((eqB s[a] 61||eqB s[a] 33)&&decide (s[a+1]?=some 61))=false->∃ _:Unit,some (Value.int .i64 ((a+1:Nat):Int))=some (i64 (zgz s a s[a])):=fun hf=>⟨(),by unfold zgz;rw [hf];rfl⟩;refine biE (fun h1=>?_) fun h1=>?_
  ·have he:(eqB s[a] 61||eqB s[a] 33)=true:=by
    have:eqB s[a] 61=true:=h1;rw [this];rfl
   refine brT ⟨_,zc hd (i:=0) rfl,biE (fun h2=>?_) fun h2=>?_⟩
   ·have h2:((a+1:Nat):Int)<(s.length:Int):=dT h2;have hl:a+1<s.length:=(by omega);refine⟨_,zc hd (i:=0) rfl,a+1,rfl,hl,s[a+1],zcC hl,biE (fun h3=>?_) fun h3=>?_⟩
    ·refine⟨(a+2:Nat),(zi (by omega)).trans (by omega),(),⟨.cons ?_ .nil,rfl⟩,rfl⟩;have h61:s[a+1]=61:=by
      apply Uj.1;have:((s[a+1].toNat:Nat):Int)=61:=dT h3;have h6:(61:UInt8).toNat=61:=rfl;omega
     unfold zgz;rw [he,gE hl,h61];rfl
    ·obtain⟨_,e⟩:=no (by
      have h61:¬ s[a+1]=61:=fun e=>by rw [e] at h3;cases h3
      rw [gE hl,Ul (by simpa using h61),Um])
     exact⟨(),⟨.cons e .nil,rfl⟩,rfl⟩
   ·have h2:¬ ((a+1:Nat):Int)<(s.length:Int):=dF h2;refine brF ?_;obtain⟨_,e⟩:=no (by rw [JJ (by omega)];simp);exact⟨(),⟨.cons e .nil,rfl⟩,rfl⟩
  ·have h1:eqB s[a] 61=false:=h1;refine biE (fun h1b=>?_) fun h1b=>?_
   ·have he:(eqB s[a] 61||eqB s[a] 33)=true:=by
     have:eqB s[a] 33=true:=h1b;rw [this,Bool.or_true]
    refine⟨_,zc hd (i:=0) rfl,biE (fun h2=>?_) fun h2=>?_⟩
    ·have h2:((a+1:Nat):Int)<(s.length:Int):=dT h2;have hl:a+1<s.length:=(by omega);refine⟨_,zc hd (i:=0) rfl,a+1,rfl,hl,s[a+1],zcC hl,biE (fun h3=>?_) fun h3=>?_⟩
     ·refine⟨(a+2:Nat),(zi (by omega)).trans (by omega),(),⟨.cons ?_ .nil,rfl⟩,rfl⟩;have h61:s[a+1]=61:=by
       apply Uj.1;have:((s[a+1].toNat:Nat):Int)=61:=dT h3;have h6:(61:UInt8).toNat=61:=rfl;omega
      unfold zgz;rw [he,gE hl,h61];rfl
     ·obtain⟨_,e⟩:=no (by
       have h61:¬ s[a+1]=61:=fun e=>by rw [e] at h3;cases h3
       rw [gE hl,Ul (by simpa using h61),Um])
      exact⟨(),⟨.cons e .nil,rfl⟩,rfl⟩
    ·have h2:¬ ((a+1:Nat):Int)<(s.length:Int):=dF h2;refine brF ?_;obtain⟨_,e⟩:=no (by rw [JJ (by omega)];simp);exact⟨(),⟨.cons e .nil,rfl⟩,rfl⟩
   ·have h1b:eqB s[a] 33=false:=h1b;refine brF (brF ?_);obtain⟨_,e⟩:=no (by rw [h1,h1b];rfl);exact⟨(),⟨.cons e .nil,rfl⟩,rfl⟩
 rintro _ _ rfl;exact⟨rfl,(Gm _ _).drew⟩
def ScV (X:Wd) (g:Nat) (s:List UInt8) (a:Nat) (op:Bool):Prop:=X.heap[g]?=some (.cells #[zx s,i64 a,.bool op] 334 (0,0))
theorem ScV.cells {X:Wd} {g a:Nat} {s:List UInt8} {op:Bool} (h:ScV X g s a op):zq X ⟨g,0,none⟩ [zx s,i64 a]:=by
 have:=q9 (o:=0) (n:=2) h;exact this
theorem ScV.below {X Y:Wd} {g a:Nat} {s:List UInt8} {op:Bool} (h:ScV X g s a op) (hb:Bw X Y):ScV Y g s a op:=zb hb h
theorem zgo {a b c:Wd} {g:Nat} (h:a.grownBy b (some g)) (k:Bw b c):a.grownBy c (some g):=zg h (zh k)
theorem zfq {X:Wd} {g a:Nat} {s:List UInt8} {op:Bool} (h:ScV X g s a op) (v:Nat) {K:Wd->Prop} (k:∀ Y,ScV Y g s v op->X.grownBy Y (some g)->Y.heap.size=X.heap.size->K Y) :
  SatR ((storeVar 3 ⟨g,1,none⟩ (i64 v)).run PG X) fun _ w'=>K w' :=
 zaA k3 rfl h (o:=1) (by show 1<3;omega) (v:=i64 v) rfl rfl fun Y fY gY sY=>k Y fY gY sY
theorem zjP {X:Wd} {g a:Nat} {s:List UInt8} {op:Bool} (h:ScV X g s a op) (v:Bool) {K:Wd->Prop} (k:∀ Y,ScV Y g s a v->X.grownBy Y (some g)->Y.heap.size=X.heap.size->K Y) :
  SatR ((storeVar 4 ⟨g,2,none⟩ (.bool v)).run PG X) fun _ w'=>K w' :=
 zaA k4 rfl h (o:=2) (by show 2<3;omega) (v := .bool v) rfl rfl fun Y fY gY sY=>k Y fY gY sY
theorem zcD {s:List UInt8} {k:Nat} (h:k<s.length):j3 s k=decide (zZ s[k]=2):=by unfold j3;rw [gE h]
theorem zhu {s:List UInt8} {k:Nat} (h:s.length<=k):j3 s k=true:=by unfold j3;rw [JJ h]
theorem zs9 {g a:Nat} {s:List UInt8} {op:Bool} {w:Wd} (h:ScV w g s a op) (ha:a<=s.length) (hs:s.length<=140737488351232) :
  Calls PG 280 #[At0 g] w fun e w'=>(∃ v,e = .returned v)/\ScV w' g s (zJ s a) op/\w.grownBy w' (some g):=by
 refine zU 50 [At0 g] (.c .p (.c .p .p)) Tryz.func280 ?_;obtain⟨b,hb⟩:=nm (zck s a);have hbl:b<=s.length:=by rw [hb];exact zkp s a ha
 refine⟨Unit,fun _=>⟨[(0,At0 g)],[]⟩,fun _ X=>ScV X g s b op/\w.grownBy X (some g),?_,?_⟩
 ·refine⟨Nat,fun k=>⟨[(0,At0 g)],[]⟩,fun k X=>k<=s.length/\k+jF zjg (s.drop k)=b/\ScV X g s k op/\w.grownBy X (some g),fun k=>s.length-k,a,(cvE rfl rfl),⟨ha,hb.symm,h,jQ _ _⟩,?_⟩;rintro k X ⟨hk,he,hX,hg⟩;dsimp only at hk he ⊢;refine DrawE.ord [] [0,1,2,3,4,5,6,7,8,9,10,11,12,13,14,15] (by kernel_rfl) ?_;have hXd:ScV X.drew g s k op:=hX;refine cmo (ziV hXd.cells) ?_;rintro e Y ⟨rfl,hbY⟩;refine⟨hbY,?_⟩;have hY:=hXd.below hbY;have gY:w.grownBy Y (some g):=zg hg (zh ((Gm _ X).drew.trans hbY));refine biE (fun ho=>?_) fun ho=>?_
  ·have ho:s.length > k:=by
    have:(!decide (s.length<=k))=true:=ho;simpa using this
   refine⟨_,zc hY.cells (i:=0) rfl,_,zc hY.cells (i:=1) rfl,k,rfl,ho,s[k],zcC ho,cmo (jX _ _) ?_⟩;rintro e _ ⟨rfl,rfl⟩;refine⟨Gm _ _,?_⟩;have hd:decide ((zZ s[k]:Int)=1)=zjg s[k]:=zcf (b:=1);rw [zbL ho] at he;refine biE (fun hi=>?_) fun hi=>?_
   ·rw [GC (hd.symm.trans hi)] at he;exact⟨_,zc hY.cells (i:=1) rfl,(k+1:Nat),(zi (by omega)).trans (by omega),zfq hY (k+1) fun Z hZ gZ sZ=>⟨k+1,(cvE rfl rfl),⟨ho,by omega,hZ,zg gY gZ⟩,zdc (by omega)⟩⟩
   ·have hi:¬ zjg s[k]=true:=(by rw [Qk];exact hd.symm.trans hi);rw [GB hi] at he;exact⟨(),(cvE rfl rfl),by rw [<- he];exact hY,gY⟩
  ·have ho:s.length<=k:=by
    have:(!decide (s.length<=k))=false:=ho;simpa using this
   refine brF ?_;rw [zge ho] at he;exact⟨(),(cvE rfl rfl),by rw [<- he];exact hY,gY⟩
 clear h;rintro _ X ⟨hX,hg⟩;have hp:zJ s a=match s[b]? with
   | some c=>if zZ c=7 then b+jF zdX (s.drop b) else b
   | none=>b:=by rw [hb];rfl
 refine⟨Unit,fun _=>⟨[(0,At0 g)],[]⟩,fun _ X=>(∃ hl:b<s.length,zZ s[b]=7)/\ScV X g s b op/\w.grownBy X (some g),?_,?_⟩
 ·refine DrawE.ord [] [0,1,2,3,4,5,6,7,8,9,10,11,12,13,14] (by kernel_rfl) ?_;have hXd:ScV X.drew g s b op:=hX;refine cmo (ziV hXd.cells) ?_;rintro e Y ⟨rfl,hbY⟩;refine⟨hbY,?_⟩;have hY:=hXd.below hbY;have gY:w.grownBy Y (some g):=zg hg (zh ((Gm _ X).drew.trans hbY));refine biE (fun ho=>?_) fun ho=>?_
  ·have ho:s.length<=b:=dT ho;refine brT ?_;have:zJ s a=b:=by rw [hp,JJ ho]
   rw [this];exact⟨⟨_,rfl⟩,hY,gY⟩
  ·have ho:¬ s.length<=b:=dF ho;have hl:b<s.length:=by omega
   refine⟨_,zc hY.cells (i:=0) rfl,_,zc hY.cells (i:=1) rfl,b,rfl,hl,s[b],zcC hl,cmo (jX _ _) ?_⟩;rintro e _ ⟨rfl,rfl⟩;refine⟨Gm _ _,biE (fun hi=>?_) fun hi=>?_⟩
   ·have hi:¬ zZ s[b]=7:=by
     have h1:(!decide ((zZ s[b]:Int)=7))=true:=hi;simp at h1;omega
    have:zJ s a=b:=(by rw [hp,gE hl];simp only [GB hi]);rw [this];exact⟨⟨_,rfl⟩,hY,gY⟩
   ·have hi:zZ s[b]=7:=by
     have h1:(!decide ((zZ s[b]:Int)=7))=false:=hi;simp at h1;omega
    exact⟨(),(cvE rfl rfl),⟨hl,hi⟩,hY,gY⟩
 clear hX hg X;rintro _ X ⟨⟨hl,h7⟩,hX,hg⟩;have hp:zJ s a=b+jF zdX (s.drop b):=by rw [hp,gE hl];simp only [GC h7]
 rw [hp];refine⟨Nat,fun k=>⟨[(0,At0 g)],[]⟩,fun k X=>k<=s.length/\k+jF zdX (s.drop k)=b+jF zdX (s.drop b)/\ScV X g s k op/\w.grownBy X (some g),fun k=>s.length-k,b,(cvE rfl rfl),⟨hbl,rfl,hX,hg⟩,?_⟩;clear hX hg X;rintro k X ⟨hk,he,hX,hg⟩;dsimp only at hk he ⊢;refine cmo (zmQ hX.cells (hlt hX)) ?_;rintro e Y ⟨rfl,hbY⟩;have hY:=hX.below hbY;have gY:=zgo hg hbY;refine biE (fun hi=>?_) fun hi=>?_
 ·have hi:j3 s k=false:=by
   have h1:(!j3 s k)=true:=hi;simpa using h1
  have hkl:k<s.length:=by
   by_cases h0:k<s.length
   ·exact h0
   ·rw [zhu (by omega)] at hi;cases hi
  have hn:zdX s[k]=true:=by
   rw [zcD hkl] at hi;unfold zdX;rw [hi];rfl
  rw [zbL hkl,GC hn] at he;exact⟨_,zc hY.cells (i:=1) rfl,(k+1:Nat),(zi (by omega)).trans (by omega),zfq hY (k+1) fun Z hZ gZ sZ=>⟨k+1,(cvE rfl rfl),⟨hkl,by omega,hZ,zg gY gZ⟩,zdc (by omega)⟩⟩
 ·have hi:j3 s k=true:=by
   have h1:(!j3 s k)=false:=hi;simpa using h1
  have h0:jF zdX (s.drop k)=0:=by
   by_cases h0:k<s.length
   ·rw [zcD h0] at hi;rw [zbL h0,GB];unfold zdX;rw [hi];decide
   ·exact zge (by omega)
  rw [h0] at he;have he:k=b+jF zdX (s.drop b):=by omega
  exact⟨⟨_,rfl⟩,by rw [<- he];exact hY,gY⟩
theorem zmm {s:List UInt8} {a:Nat} (ha:a<=s.length):zJ s a<=s.length:=by
 have h1:zck s a<=s.length:=zkp s a ha;unfold zJ
 split
 ·split
  ·exact zkp s _ h1
  ·exact h1
 ·exact h1
def je:Enc Tok:=⟨fun t=>[u8 t.kind,zx t.text,i64 t.pos],3,fun _=>rfl,by decide,fun a u hu=>by
 simp only [UJ,Qx,Gy] at hu;rcases hu with rfl | rfl | rfl <;> rfl⟩
theorem zlI {s:List UInt8} {a:Nat} (ha:a<s.length) (c:UInt8):a<zaV s a c/\zaV s a c<=s.length:=by
 unfold zaV
 split
 ·have:=zkp (p:=qw) s (a+1) ha;omega
 ·split
  ·have:=zkp (p:=zbo) s (a+1) ha;omega
  ·split
   ·rename_i h;have h2:s[a+1]?=some 61:=by
     simp only [bAT,dE] at h;exact h.2
    have:=(Jq.1 h2).1;omega
   ·omega
theorem zlV (s:List UInt8) (a e:Nat):(bs s).extract a e=bs ((s.drop a).take (e-a)):=by
 have h:((bs s).extract a e).data=(bs ((s.drop a).take (e-a))).data:=by
  rw [ByteArray.data_extract];apply Qg.1;rw [JT];rfl
 exact ByteArray.ext h
theorem zqR {g a:Nat} {s:List UInt8} {op:Bool} {w:Wd} (h:ScV w g s a op) (ha:a<s.length) (hs:s.length<=140737488351232) :
  Calls PG 282 #[At0 g] w fun e w'=>e = .returned (.agg (je.enc (zjw s a s[a])).toArray)/\ScV w' g s (zaV s a s[a]) op/\w.grownBy w' (some g):=by
 refine zU 51 [At0 g] (.s .p (.s .p (.c .p .p))) Tryz.func282 ?_;obtain⟨z,hz⟩:=nm (je.enc ⟨0,[],0⟩);obtain⟨W0,hW0⟩:=nm ((w.alloc (.cells z.toArray 311)));have hb0:Bw w W0:=by rw [hW0];exact (zba _ _)
 have f0:W0.heap[w.heap.size]?=some (.cells z.toArray 311 (0,0)):=by rw [hW0];exact zt w _
 have h0:ScV W0 g s a op:=h.below hb0;have hgl:g<w.heap.size:=hlt h;refine⟨Nat,fun f=>⟨[(0,At0 g),(2,.pointer (some ⟨w.heap.size,0,none⟩)),(3,u8 (zfW s[a])),(4,.func (.func f) #[] #[])],[]⟩,fun f X=>Bw W0 X /\
  ((zZ s[a]=3/\f=295)\/(¬ zZ s[a]=3/\zZ s[a]=4/\f=296)\/(¬ zZ s[a]=3/\¬ zZ s[a]=4/\f=294)),?_,?_⟩
 ·subst hz;subst hW0;refine DrawE.ord [] [0,1,2,3,4,5,6,7,8,9,10,11] (by kernel_rfl) ?_;have hd:ScV (w.alloc (.cells (je.enc ⟨0,[],0⟩).toArray 311)).drew g s a op:=h0;refine⟨_,zc hd.cells (i:=0) rfl,_,zc hd.cells (i:=1) rfl,a,rfl,ha,s[a],zcC ha,cmo (jX _ _) ?_⟩;rintro e _ ⟨rfl,rfl⟩;refine⟨Gm _ _,biE (fun h3=>?_) fun h3=>?_⟩
  ·have h3:zZ s[a]=3:=by have h3:(zZ s[a]:Int)=3:=dT h3;omega
   exact⟨_,⟨.cons rfl (.cons rfl (.cons (by unfold zfW;rw [GC h3];rfl) (.cons rfl .nil))),rfl⟩,(Gm _ _).drew,.inl ⟨h3,rfl⟩⟩
  have h3:¬ zZ s[a]=3:=by have h3:¬ (zZ s[a]:Int)=3:=dF h3;omega
  refine biE (fun h4=>?_) fun h4=>?_
  ·have h4:zZ s[a]=4:=by have h4:(zZ s[a]:Int)=4:=dT h4;omega
   exact⟨_,⟨.cons rfl (.cons rfl (.cons (by unfold zfW;rw [GB h3,GC h4];rfl) (.cons rfl .nil))),rfl⟩,(Gm _ _).drew,.inr (.inl ⟨h3,h4,rfl⟩)⟩
  ·have h4:¬ zZ s[a]=4:=by have h4:¬ (zZ s[a]:Int)=4:=dF h4;omega
   exact⟨_,⟨.cons rfl (.cons rfl (.cons (by unfold zfW;rw [GB h3,GB h4];rfl) (.cons rfl .nil))),rfl⟩,(Gm _ _).drew,.inr (.inr ⟨h3,h4,rfl⟩)⟩
 rintro f V ⟨hV,hf⟩;dsimp only at hV hf ⊢;have hVs:=h0.below hV;obtain⟨e1,e2⟩:=zlI ha s[a];have fin:∀ Y,Bw V Y->∀ Z,ScV Z g s (zaV s a s[a]) op->Y.grownBy Z (some g)->Bw w Y/\Z.heap[w.heap.size]?=some (.cells z.toArray 311 (0,0))/\w.grownBy Z (some g):=fun Y hY Z hZ gZ=>by
  have hwY:=((zst hb0 hV)).trans (hY.mono (by have:=hb0.size;have:=hV.size;omega));have f1:=zb hY (zb hV f0);refine⟨hwY,(gZ.block _ (hlt f1) (fun e=>by simp only [Qb] at e;omega)).trans f1,zg (zh hwY) gZ⟩
 have last:∀ Z,Z.heap[w.heap.size]?=some (.cells z.toArray 311 (0,0))->w.grownBy Z (some g)->∀ R,Z.grownBy R (some w.heap.size)->w.grownBy R (some g):=fun Z _ gZ R gR =>
  ⟨gR.os.trans gZ.os,gR.tape.trans gZ.tape,gR.output.trans gZ.output,UX gZ.size gR.size,fun k hk hne=>(gR.block k (nL hk gZ.size) (fun e=>by simp only [Qb] at e;omega)).trans (gZ.block k hk hne)⟩
 have fill:∀ cs,cs=je.enc (zjw s a s[a])->∀ Z,Z.heap[w.heap.size]?=some (.cells z.toArray 311 (0,0))->∀ (K:Wd->Prop),(∀ R,R.heap[w.heap.size]?=some (.cells (je.enc (zjw s a s[a])).toArray 311 (0,0))->Z.grownBy R (some w.heap.size)->K R) ->
   SatR ((storeVar 311 ⟨w.heap.size,0,none⟩ (.agg cs.toArray)).run PG Z) fun _ w'=>K w':=fun cs hcs Z fZ K k=>by
  subst hz hcs;exact zr (v := .agg (je.enc (zjw s a s[a])).toArray) zkj fZ rfl rfl rfl (k _ (zm fZ) (qx Z _ _))
 rcases hf with ⟨h3,rfl⟩ | ⟨h3,h4,rfl⟩ | ⟨h3,h4,rfl⟩
 ·refine⟨_,zc hVs.cells (i:=1) rfl,cmo (zm3 hVs.cells ha hs) ?_⟩;rintro e _ ⟨rfl,rfl⟩;have hbY:Bw V V:=Gm _ _;have hVY:=hVs;have ee:a+1+jF qw (s.drop (a+1))=zaV s a s[a]:=by unfold zaV;rw [GC h3]
  rw [ee];refine zfq hVY (zaV s a s[a]) fun Z hZ gZ sZ=>?_;obtain⟨hwY,fZ,gwZ⟩:=fin V hbY Z hZ gZ;refine DrawE.ord [15] [0,1,2,3,4,5,6,7,8,9,10,11,12,13,14,15] (by kernel_rfl) ?_;have hZd:ScV Z.drew g s (zaV s a s[a]) op:=hZ;refine⟨_,zc hZd.cells (i:=0) rfl,_,zc hZd.cells (i:=1) rfl,zaV s a s[a],rfl,e2,a,rfl,by omega,?_⟩;exact⟨[u8 (zfW s[a]),.string ((bs s).extract a (zaV s a s[a])),i64 a],rfl,fill _ (by rw [zlV];rfl) Z.drew fZ _ fun R fR gR=>⟨_,rfl,za fR,rfl,(gR.block g (hlt hZd) (fun e=>by simp only [Qb] at e;omega)).trans hZd,last Z.drew fZ (zg gwZ (zh (Gm _ Z).drew)) R gR⟩⟩
 ·refine⟨_,zc hVs.cells (i:=1) rfl,cmo (zj6 hVs.cells ha hs) ?_⟩;rintro e _ ⟨rfl,rfl⟩;have hbY:Bw V V:=Gm _ _;have hVY:=hVs;have ee:a+1+jF zbo (s.drop (a+1))=zaV s a s[a]:=by unfold zaV;rw [GB h3,GC h4]
  rw [ee];refine zfq hVY (zaV s a s[a]) fun Z hZ gZ sZ=>?_;obtain⟨hwY,fZ,gwZ⟩:=fin V hbY Z hZ gZ;refine DrawE.ord [15] [0,1,2,3,4,5,6,7,8,9,10,11,12,13,14,15] (by kernel_rfl) ?_;have hZd:ScV Z.drew g s (zaV s a s[a]) op:=hZ;refine⟨_,zc hZd.cells (i:=0) rfl,_,zc hZd.cells (i:=1) rfl,zaV s a s[a],rfl,e2,a,rfl,by omega,?_⟩;exact⟨[u8 (zfW s[a]),.string ((bs s).extract a (zaV s a s[a])),i64 a],rfl,fill _ (by rw [zlV];rfl) Z.drew fZ _ fun R fR gR=>⟨_,rfl,za fR,rfl,(gR.block g (hlt hZd) (fun e=>by simp only [Qb] at e;omega)).trans hZd,last Z.drew fZ (zg gwZ (zh (Gm _ Z).drew)) R gR⟩⟩
 ·refine⟨_,zc hVs.cells (i:=1) rfl,cmo (zne hVs.cells ha hs) ?_⟩;rintro e Y ⟨rfl,hbY⟩;have hVY:=hVs.below hbY;have ee:zgz s a s[a]=zaV s a s[a]:=by unfold zaV;rw [GB h3,GB h4];rfl
  rw [ee];refine zfq hVY (zaV s a s[a]) fun Z hZ gZ sZ=>?_;obtain⟨hwY,fZ,gwZ⟩:=fin Y hbY Z hZ gZ;refine DrawE.ord [15] [0,1,2,3,4,5,6,7,8,9,10,11,12,13,14,15] (by kernel_rfl) ?_;have hZd:ScV Z.drew g s (zaV s a s[a]) op:=hZ;refine⟨_,zc hZd.cells (i:=0) rfl,_,zc hZd.cells (i:=1) rfl,zaV s a s[a],rfl,e2,a,rfl,by omega,?_⟩;exact⟨[u8 (zfW s[a]),.string ((bs s).extract a (zaV s a s[a])),i64 a],rfl,fill _ (by rw [zlV];rfl) Z.drew fZ _ fun R fR gR=>⟨_,rfl,za fR,rfl,(gR.block g (hlt hZd) (fun e=>by simp only [Qb] at e;omega)).trans hZd,last Z.drew fZ (zg gwZ (zh (Gm _ Z).drew)) R gR⟩⟩
def zec (l:List UInt8):Nat:=l.foldl (fun v c=>10*v+(c.toNat-48)) 0
theorem znF {s:List UInt8} {k:Nat} (h:k<s.length):zec (s.take (k+1))=10*zec (s.take k)+(s[k].toNat-48):=by
 unfold zec;rw [tsg h,KV];rfl
theorem zr0 {c:UInt8} (h:zbo c=true):48<=c.toNat/\c.toNat<=57:=by
 unfold zbo at h;have h:zZ c=4:=dT h;unfold zZ at h
 cases h1:zfX c with
 | true=>rw [h1] at h;cases h
 | false =>
  rw [h1] at h
  cases h2:zg6 c with
  | true=>unfold zg6 at h2;simp at h2;omega
  | false =>
   rw [h2] at h
   revert h
   cases eqB c 32||eqB c 9 <;> cases eqB c 10 <;> cases eqB c 95 <;> cases eqB c 35 <;> cases zmw c <;> (intro h;cases h)
theorem zvh (s:List UInt8) (hs:s.length<=140737488351232) (w:Wd):Calls PG 284 #[zx s] w fun e w'=>∃ v,e = .returned (.tuple #[u8 v,.bool (ziX s)])/\w=w':=by
 refine zU 47 [zx s] (.s .p (.c .p .p)) Tryz.func284 ?_;have hnl:ziX s=(decide (1<=s.length)&&(decide (s.length<=3)&&(!(decide (s.head?=some 48)&&decide (1<s.length))&&(s.all zbo&&decide (zec s<=255))))):=rfl;refine⟨Unit,fun _=>⟨[(0,zx s)],[]⟩,fun _ X=>(1<=s.length/\s.length<=3/\(decide (s.head?=some 48)&&decide (1<s.length))=false)/\w=X,?_,?_⟩
 ·refine biE (fun h1=>?_) fun h1=>?_
  ·have h1:(s.length:Int)<1:=dT h1;exact brT (brT ⟨0,by rw [hnl,Ul (by omega)];rfl,rfl⟩)
  have h1:¬ (s.length:Int)<1:=dF h1;refine biE (fun h2=>?_) fun h2=>?_
  ·have h2:(3:Int)<(s.length:Int):=dT h2;exact brT ⟨0,by rw [hnl,Ul (p:=s.length<=3) (by omega)];simp;rfl,rfl⟩
  have h2:¬ (3:Int)<(s.length:Int):=dF h2;have h0:0<s.length:=by omega
  have hh:s.head?=some s[0]:=by rw [List.head?_eq_getElem?,gE h0]
  refine⟨0,rfl,h0,s[0],zcC h0,biE (fun h3=>?_) fun h3=>?_⟩
  ·have h3:s[0]=48:=by
    apply Uj.1;have h3:((s[0].toNat:Nat):Int)=48:=dT h3;have:(48:UInt8).toNat=48:=rfl;omega
   refine biE (fun h4=>?_) fun h4=>?_
   ·have h4:(1:Int)<(s.length:Int):=dT h4;exact⟨0,by rw [hnl,hh,h3,Ux (p:=1<s.length) (by omega)];simp;rfl,rfl⟩
   ·have h4:¬ (1:Int)<(s.length:Int):=dF h4;exact⟨(),(cvE rfl rfl),⟨by omega,by omega,by rw [Ul (p:=1<s.length) (by omega),Um]⟩,rfl⟩
  ·refine brF ?_;exact⟨(),(cvE rfl rfl),⟨by omega,by omega,by
    have:¬ s[0]=48:=fun e=>by rw [e] at h3;cases h3
    rw [hh,Ul (by simpa using this),Un]⟩,rfl⟩
 rintro _ _ ⟨⟨h1,h2,h3⟩,rfl⟩;have hnl:ziX s=(s.all zbo&&decide (zec s<=255)):=by rw [hnl,Ux h1,Ux h2,h3];rfl
 rw [hnl];refine⟨Nat,fun k=>⟨[(0,zx s),(4,i64 (zec (s.take k):Nat)),(25,i64 s.length),(26,i64 (k:Nat))],[]⟩,fun k X=>k<=s.length/\(∀ c∈s.take k,zbo c=true)/\zec (s.take k)<10^k/\w=X,fun k=>s.length-k,0,(cvE rfl rfl),⟨Gj _,by simp,Nat.one_pos,rfl⟩,?_⟩;rintro k _ ⟨hk,hdg,hv,rfl⟩;dsimp only at hk hdg hv ⊢;refine biE (fun hc=>?_) fun hc=>?_
 ·have hc:(k:Int)<(s.length:Int):=dT hc;have hl:k<s.length:=by omega
  refine⟨k,rfl,hl,s[k],zcC hl,cmo (jX _ _) ?_⟩;rintro e _ ⟨rfl,rfl⟩;have hd:decide ((zZ s[k]:Int)=4)=zbo s[k]:=zcf (b:=4);refine biE (fun hi=>?_) fun hi=>?_
  ·have hi:zbo s[k]=false:=by
    have h1:(!decide ((zZ s[k]:Int)=4))=true:=hi;rw [hd] at h1;simpa using h1
   have:s.all zbo=false:=by
    rw [KO];exact⟨s[k],gM _,by rw [hi];simp⟩
   exact⟨0,by rw [this];rfl,rfl⟩
  ·have hi:zbo s[k]=true:=by
    have h1:(!decide ((zZ s[k]:Int)=4))=false:=hi;rw [hd] at h1;simpa using h1
   obtain⟨d1,d2⟩:=zr0 hi;have hv3:zec (s.take k)<1000:=nL hv (by
    have:k<=3:=(by omega);exact Kb (by decide) this)
   have hsn:=znF hl;refine⟨((10*zec (s.take k):Nat):Int),(zi (by omega)).trans (by omega),k,rfl,hl,s[k],zcC hl,((s[k].toNat-48:Nat):Int),(zga (by omega)).trans (by omega),((s[k].toNat-48:Nat):Int),(zi (by omega)).trans (by omega),(zec (s.take (k+1)):Int),(zi (by omega)).trans (by omega),(k+1:Nat),(zi (by omega)).trans (by omega),k+1,(cvE rfl rfl),⟨hl,?_,?_,rfl⟩,zdc (by omega)⟩
   ·rw [tsg hl];intro c hc;rcases QW.1 hc with hc | hc
    ·exact hdg c hc
    ·simp only [KC] at hc;rw [hc];exact hi
   ·rw [hsn,Nat.pow_succ];omega
 ·have hc:¬ (k:Int)<(s.length:Int):=dF hc;obtain rfl:k=s.length:=by omega
  rw [Qy] at hdg hv;have ha:s.all zbo=true:=Ql.2 hdg;rw [ha,Qy];have hv3:zec s<1000:=nL hv (Kb (by decide) h2);refine biE (fun h5=>?_) fun h5=>?_
  ·have h5:(255:Int)<(zec s:Int):=dT h5;exact⟨0,by rw [Ul (by omega)];rfl,rfl⟩
  ·have h5:¬ (255:Int)<(zec s:Int):=dF h5;exact⟨((UInt8.ofNat (zec s)).toNat:Int),(zga (by omega)).trans (by rw [KJ];omega),UInt8.ofNat (zec s),by rw [Ux (by omega)];rfl,rfl⟩
theorem zts {t:Tok} (h:t.kind=3) (hl:0<t.text.length):jm t=if zZ t.text[0]=6 then 0 else 40:=by
 obtain⟨k,x,p⟩:=t;have h:k=3:=h;subst h
 cases x with
 | nil=>exact GD hl (Nat.lt_irrefl 0)
 | cons a r=>rfl
theorem zrC (t:Tok) (ht:t.kind=3->t.text≠[]) (hs:t.text.length<=140737488351232) (w:Wd):CB 272 #[.agg (je.enc t).toArray] w (i64 (jm t)):=by
 refine zI 30 [.agg (je.enc t).toArray] Tryz.func272 ?_;have hb0:Bw w (w.alloc (.cells (je.enc t).toArray 311)):=zba _ _;have f0:=zt w (.cells (je.enc t).toArray 311);have c0:zq (w.alloc (.cells (je.enc t).toArray 311)) ⟨w.heap.size,0,none⟩ [u8 t.kind,zx t.text,i64 t.pos]:=za f0;have kd:∀ k:UInt8,decide ((t.kind.toNat:Int)=(k.toNat:Int))=decide (t.kind=k):=fun k=>by
  rw [QJ];exact jc
 refine⟨_,zc c0 (i:=0) rfl,biE (fun h1=>?_) fun h1=>?_⟩
 ·have h1:t.kind=1:=dT ((kd 1).symm.trans h1);have e:jm t=if 16<t.text.length then 42 else 0:=by unfold jm;rw [GC h1]
  rw [e];refine⟨_,zc c0 (i:=1) rfl,biE (fun h2=>?_) fun h2=>?_⟩
  ·have h2:(16:Int)<(t.text.length:Int):=dT h2;exact⟨by rw [GC (by omega)];rfl,hb0⟩
  ·have h2:¬ (16:Int)<(t.text.length:Int):=dF h2;exact⟨by rw [GB (by omega)];rfl,hb0⟩
 have h1:¬ t.kind=1:=dF ((kd 1).symm.trans h1);refine biE (fun h2=>?_) fun h2=>?_
 ·have h2:t.kind=2:=dT ((kd 2).symm.trans h2);have e:jm t=if ziX t.text then 0 else 41:=by unfold jm;rw [GB h1,GC h2]
  rw [e];refine⟨_,zc c0 (i:=1) rfl,cmo (zvh t.text hs _) ?_⟩;rintro e _ ⟨v,rfl,rfl⟩;refine biE (fun h3=>?_) fun h3=>?_
  ·have h3:(!ziX t.text)=true:=h3;have h3:ziX t.text=false:=by simpa using h3
   exact⟨by rw [h3];rfl,hb0⟩
  ·have h3:(!ziX t.text)=false:=h3;have h3:ziX t.text=true:=by simpa using h3
   exact⟨by rw [h3];rfl,hb0⟩
 have h2:¬ t.kind=2:=dF ((kd 2).symm.trans h2);refine biE (fun h3=>?_) fun h3=>?_
 ·have h3:t.kind=3:=dT ((kd 3).symm.trans h3);have hne:=ht h3;have hl:0<t.text.length:=List.length_pos_iff.2 hne;have e:jm t=if zZ t.text[0]=6 then 0 else 40:=zts h3 hl
  rw [e];refine⟨_,zc c0 (i:=1) rfl,0,rfl,hl,t.text[0],zcC hl,cmo (jX _ _) ?_⟩;rintro e _ ⟨rfl,rfl⟩;refine biE (fun h4=>?_) fun h4=>?_
  ·have h4:(!decide ((zZ t.text[0]:Int)=6))=true:=h4;have h4:¬ zZ t.text[0]=6:=by simp at h4;omega
   exact⟨by rw [GB h4];rfl,hb0⟩
  ·have h4:(!decide ((zZ t.text[0]:Int)=6))=false:=h4;have h4:zZ t.text[0]=6:=by simp at h4;omega
   exact⟨by rw [GC h4];rfl,hb0⟩
 have h3:¬ t.kind=3:=dF ((kd 3).symm.trans h3);exact⟨by unfold jm;rw [GB h1,GB h2,GB h3];rfl,hb0⟩
theorem zfE {a b c:Wd} {g r:Nat} (h:a.grownBy b (some g)) (k:b.grownBy c (some r)) (hr:a.heap.size<=r):a.grownBy c (some g) :=
 ⟨k.os.trans h.os,k.tape.trans h.tape,k.output.trans h.output,UX h.size k.size,fun i hi hne=>(k.block i (nL hi h.size) (fun e=>by simp only [Qb] at e;omega)).trans (h.block i hi hne)⟩
theorem zrk {x y:Int} {T:Array TypeId} {t:TypeId} {w:Wd} {K:Value->Wd->Prop} (k:K (.int .i64 (if y<x then y else x)) w):SatR ((Builtin.min_ T t [Value.int .i64 x,.int .i64 y].toArray).run PG w) K :=
 SatR.mk (v := .int .i64 (if y<x then y else x)) (w':=w) (by simp [Builtin.min_,Builtin.min2]) k
section
variable {s:List UInt8} {f a:Nat} {op:Bool}
theorem zj9 (h:zJ s a<s.length) (h2:¬ zZ s[zJ s a]=2):zam s (f+1) a op=some (zjw s (zJ s a) s[zJ s a],zaV s (zJ s a) s[zJ s a],true):=by
 unfold zam;rw [gE h];simp only [GB h2]
theorem zgT (h:j3 s (zJ s a)=true):zam s (f+1) a true=some (⟨4,[],zJ s a⟩,min (zJ s a+1) s.length,false):=by
 unfold zam;by_cases hp:zJ s a<s.length
 ·rw [zcD hp] at h;have h:=dT h;rw [gE hp];simp only [GC h];rfl
 ·rw [JJ (by omega)];rfl
theorem zid (h:s.length<=zJ s a):zam s (f+1) a false=none:=by
 unfold zam;rw [JJ h];rfl
theorem zie (h:zJ s a<s.length) (h2:zZ s[zJ s a]=2):zam s (f+1) a false=zam s f (min (zJ s a+1) s.length) false:=by
 conv=>lhs;unfold zam
 rw [gE h];simp only [GC h2];rfl
theorem zmn:a<=zJ s a:=by
 have h1:a<=zck s a:=QA _ _;unfold zJ
 split
 ·split
  ·omega
  ·exact h1
 ·exact h1
end
def zjo:Tok:=⟨0,[],0⟩
theorem zpj {g a:Nat} {s:List UInt8} {op:Bool} {w:Wd} (h:ScV w g s a op) (ha:a<=s.length) (hs:s.length<=140737488351232) :
  Calls PG 271 #[At0 g] w fun e w'=>∃ t a' op' ok,e = .returned (.tuple #[.agg (je.enc t).toArray,.bool ok])/\(ok=true->zam s (s.length+2) a op=some (t,a',op'))/\(ok=false->zam s (s.length+2) a op=none) /\
   a'<=s.length/\ScV w' g s a' op'/\w.grownBy w' (some g):=by
 refine zI 57 [At0 g] Tryz.func271 ?_;obtain⟨r,hr⟩:=nm (w.heap.size);have hgl:g<r:=by rw [hr];exact hlt h
 obtain⟨W0,hW0⟩:=nm (w.alloc (.cells (je.enc zjo).toArray 311));have hb0:Bw w W0:=by rw [hW0];exact (zba _ _)
 have f0:W0.heap[r]?=some (.cells (je.enc zjo).toArray 311 (0,0)):=by rw [hW0,hr];exact zt w _
 have h0:ScV W0 g s a op:=h.below hb0;refine⟨Nat×Nat×Bool,fun k=>⟨[(0,At0 g),(2,At0 r)],[]⟩,fun k X=>s.length+1<=k.1+k.2.1/\k.2.1<=s.length/\zam s (k.1+1) k.2.1 k.2.2=zam s (s.length+2) a op/\ScV X g s k.2.1 k.2.2/\w.grownBy X (some g)/\X.heap[r]?=some (.cells (je.enc zjo).toArray 311 (0,0)),
  fun k=>s.length-k.2.1,(s.length+1,a,op),⟨.cons rfl (.cons (by rw [hr];rfl) .nil),rfl⟩,⟨by omega,ha,rfl,by subst hW0;exact h0,by subst hW0;exact zh hb0,by subst hW0;exact f0⟩,?_⟩
 clear hW0 hb0 f0 h0 W0;rintro⟨f,k,o⟩ X ⟨hf,hk,hn,hX,gX,fX⟩;dsimp only at hf hk hn hX gX fX ⊢;have fillR:∀ (t:Tok) (Y:Wd),Y.heap[r]?=some (.cells (je.enc zjo).toArray 311 (0,0))->∀ (K:Wd->Prop),(∀ R,R.heap[r]?=some (.cells (je.enc t).toArray 311 (0,0))->Y.grownBy R (some r)->K R) ->
   SatR ((storeVar 311 ⟨r,0,none⟩ (.agg (je.enc t).toArray)).run PG Y) fun _ w'=>K w':=fun t Y fY K q =>
  zr (v := .agg (je.enc t).toArray) zkj fY rfl rfl rfl (q _ (zm fY) (qx Y _ _))
 have keepR:∀ {A B:Wd},A.grownBy B (some g)->A.heap[r]?=some (.cells (je.enc zjo).toArray 311 (0,0))->B.heap[r]?=some (.cells (je.enc zjo).toArray 311 (0,0)):=fun hg hA=>(hg.block _ (hlt hA) (fun e=>by simp only [Qb] at e;omega)).trans hA;have keepS:∀ {A B:Wd} {a:Nat} {o:Bool} {q:Nat},A.grownBy B (some q)->g≠q->ScV A g s a o->ScV B g s a o:=fun hg hq hA=>(hg.block _ (hlt hA) (fun e=>hq (by simpa using e))).trans hA;refine cmo (zs9 hX hk hs) ?_;rintro e Y ⟨⟨v,rfl⟩,hY,gY⟩;have hp:=zmm (s:=s) hk;have hpk:=zmn (s:=s) (a:=k);have fY:=keepR gY fX;have gwY:=zg gX gY;refine cmo (zmQ hY.cells (hlt hY)) ?_;rintro e Z ⟨rfl,hbZ⟩;have hZ:=hY.below hbZ;have gwZ:=zgo gwY hbZ;have fZ:=zb hbZ fY;refine biE (fun hc=>?_) fun hc=>?_
 ·have hc:j3 s (zJ s k)=false:=by
   have h1:(!j3 s (zJ s k))=true:=hc;simpa using h1
  have hl:zJ s k<s.length:=by
   by_cases h1:zJ s k<s.length
   ·exact h1
   ·rw [zhu (by omega)] at hc;cases hc
  rw [zcD hl] at hc;have hc:=dF hc;rw [zj9 hl hc] at hn;refine zjP hZ true fun U hU gU sU=>?_;have gwU:=zg gwZ gU;have fU:=keepR gU fZ;refine cmo (zqR hU hl hs) ?_;rintro e V ⟨rfl,hV,gV⟩;have gwV:=zg gwU gV;exact fillR _ V (keepR gV fU) _ fun R fR gR=>⟨_,rfl,za fR,_,_,_,true,rfl,fun _=>hn.symm,fun h=>(by cases h),(zlI hl _).2,keepS gR (by omega) hV,zfE gwV gR (by omega)⟩
 have hc:j3 s (zJ s k)=true:=by
  have h1:(!j3 s (zJ s k))=false:=hc;simpa using h1
 refine⟨_,zc hZ.cells (i:=1) rfl,je.enc ⟨4,[],zJ s k⟩,rfl,zl (X:=Z) (v := .agg (je.enc ⟨4,[],zJ s k⟩).toArray) zkj rfl rfl rfl fun U hbU fU4 sU=>?_⟩;have fU4:U.heap[Z.heap.size]?=some (.cells (je.enc ⟨4,[],zJ s k⟩).toArray 311 (0,0)):=fU4;have hU:=hZ.below hbU;have gwU:=zgo gwZ hbU;have fU:=zb hbU fZ;have hzs:r<Z.heap.size:=hlt fZ;refine cmo (ziV hU.cells) ?_;rintro e V ⟨rfl,hbV⟩;have hV:=hU.below hbV;have gwV:=zgo gwU hbV;have fV:=zb hbV fU;have fV4:=zb hbV fU4;refine DrawE.ord [17] [0,1,2,3,4,5,6,7,8,9,10,11,12,13,14,15,16,17] (by kernel_rfl) ?_;have hVd:ScV V.drew g s (zJ s k) o:=hV;refine⟨_,zc hVd.cells (i:=1) rfl,(zJ s k+1:Nat),(zi (by omega)).trans (by omega),_,zc hVd.cells (i:=0) rfl,zrk ⟨Gm _ _,?_⟩⟩;have hmin:(if ((s.length:Nat):Int)<((zJ s k+1:Nat):Int) then ((s.length:Nat):Int) else ((zJ s k+1:Nat):Int))=((min (zJ s k+1) s.length:Nat):Int):=by
  split <;> omega
 have e5:Value.int .i64 (if (((bs s).size:Nat):Int)<((zJ s k+1:Nat):Int) then (((bs s).size:Nat):Int) else ((zJ s k+1:Nat):Int))=i64 (min (zJ s k+1) s.length:Nat):=by
  rw [show (bs s).size=s.length from rfl,hmin];rfl
 rw [e5];refine zfq hVd (min (zJ s k+1) s.length) fun R hR gR sR=>?_;have gwR:=zg (zg gwV (zh (Gm _ V).drew)) gR;have fR:=keepR gR (hdr fV);have fR4:R.heap[Z.heap.size]?=some (.cells (je.enc ⟨4,[],zJ s k⟩).toArray 311 (0,0)):=(gR.block _ (hlt (hdr fV4)) (fun e=>by simp only [Qb] at e;omega)).trans (hdr fV4);refine⟨_,zc (za hR) (i:=2) rfl,biE (fun ho=>?_) fun ho=>?_⟩
 ·have ho:o=true:=ho;subst ho;rw [zgT hc] at hn;refine zjP hR false fun T hT gT sT=>?_;have gwT:=zg gwR gT;have fT:=keepR gT fR;have fT4:T.heap[Z.heap.size]?=some (.cells (je.enc ⟨4,[],zJ s k⟩).toArray 311 (0,0)):=(gT.block _ (hlt fR4) (fun e=>by simp only [Qb] at e;omega)).trans fR4;exact⟨_,rfl,za fT4,hlt fT4,fillR ⟨4,[],zJ s k⟩ T fT _ fun L fL gL=>⟨_,rfl,za fL,_,_,_,true,rfl,fun _=>hn.symm,fun h=>(by cases h),QD _ _,keepS gL (by omega) hT,zfE gwT gL (by omega)⟩⟩
 ·have ho:o=false:=ho;subst ho;refine biE (fun h5=>?_) fun h5=>?_
  ·have h5:s.length<=zJ s k:=dT h5;rw [zid h5] at hn;exact⟨je.enc zjo,rfl,fillR zjo R fR _ fun L fL gL=>⟨_,rfl,za fL,_,_,_,false,rfl,fun h=>(by cases h),fun _=>hn.symm,QD _ _,keepS gL (by omega) hR,zfE gwR gL (by omega)⟩⟩
  ·have h5:¬ s.length<=zJ s k:=dF h5;have hl:zJ s k<s.length:=by omega
   have h2:zZ s[zJ s k]=2:=by rw [zcD hl] at hc;exact dT hc
   rw [zie hl h2] at hn;have hmn:min (zJ s k+1) s.length=zJ s k+1:=Ue (by omega);obtain⟨f',rfl⟩:∃ f',f=f'+1:=⟨f-1,by omega⟩;exact⟨(f',min (zJ s k+1) s.length,false),(cvE rfl rfl),⟨by show _<=f'+min _ _;omega,QD _ _,hn,hR,gwR,fR⟩,by show s.length-min _ _<s.length-k;omega⟩
def bOp (op:Bool):Nat:=if op then 1 else 0
theorem zlt {s:List UInt8} {f a a':Nat} {op op':Bool} {t:Tok} (h:zam s (f+1) a op=some (t,a',op')) :
  (∃ hl:zJ s a<s.length,t=zjw s (zJ s a) s[zJ s a]/\a'=zaV s (zJ s a) s[zJ s a]/\op'=true)\/(op=true/\t=⟨4,[],zJ s a⟩/\a'=min (zJ s a+1) s.length/\op'=false) \/
   (op=false/\zJ s a<s.length/\zam s f (min (zJ s a+1) s.length) false=some (t,a',op')):=by
 by_cases hp:zJ s a<s.length
 ·by_cases h2:zZ s[zJ s a]=2
  ·cases op with
   | true =>
    rw [zgT (by rw [zcD hp];exact Ux h2)] at h;simp only [Qb,UN] at h;exact .inr (.inl ⟨rfl,h.1.symm,h.2.1.symm,h.2.2.symm⟩)
   | false =>
    rw [zie hp h2] at h;exact .inr (.inr ⟨rfl,hp,h⟩)
  ·rw [zj9 hp h2] at h;simp only [Qb,UN] at h;exact .inl ⟨hp,h.1.symm,h.2.1.symm,h.2.2.symm⟩
 ·cases op with
  | true =>
   rw [zgT (zhu (by omega))] at h;simp only [Qb,UN] at h;exact .inr (.inl ⟨rfl,h.1.symm,h.2.1.symm,h.2.2.symm⟩)
  | false=>rw [zid (by omega)] at h;cases h
theorem zdp {s:List UInt8} {t:Tok} {a':Nat} {op':Bool}:∀ {f a:Nat} {op:Bool},zam s f a op=some (t,a',op')->a<=s.length ->
  a'<=s.length/\2*(s.length-a')+bOp op'<2*(s.length-a)+bOp op/\(t.kind=3->t.text≠[])/\t.text.length<=s.length
 | 0,_,_,h,_=>by cases h
 | f+1,a,op,h,ha=>by
  have hpa:=zmn (s:=s) (a:=a);have hpl:=zmm ha;rcases zlt h with ⟨hl,rfl,rfl,rfl⟩ | ⟨rfl,rfl,rfl,rfl⟩ | ⟨rfl,hl,h'⟩
  ·obtain⟨e1,e2⟩:=zlI hl s[zJ s a];refine⟨e2,?_,fun _=>?_,?_⟩
   ·have:bOp true=1:=rfl;omega
   ·intro he;have h1:((s.drop (zJ s a)).take (zaV s (zJ s a) s[zJ s a]-zJ s a)).length=0:=by
     have:(zjw s (zJ s a) s[zJ s a]).text=[]:=he;exact Gw List.length this
    rw [Qw,Qv] at h1;omega
   ·show ((s.drop (zJ s a)).take _).length<=_;rw [Qw,Qv];omega
  ·refine⟨QD _ _,?_,fun h=>(by cases h),Gj _⟩;have h1:bOp true=1:=rfl;have h0:bOp false=0:=rfl;omega
  ·obtain⟨h1,h2,h3⟩:=zdp h' (QD _ _);refine⟨h1,?_,h3⟩;omega
theorem zhR {s:List UInt8} {f a a':Nat} {op op':Bool} {t:Tok} (h:zam s (s.length+2) a op=some (t,a',op')):zcu s (f+1) a op=t::zcu s f a' op':=by
 show (match zam s (s.length+2) a op with
  | some (t,a',op')=>t::zcu s f a' op'
  | none=>[])=_
 rw [h]
theorem zhQ {s:List UInt8} {f a:Nat} {op:Bool} (h:zam s (s.length+2) a op=none):zcu s (f+1) a op=[]:=by
 show (match zam s (s.length+2) a op with
  | some (t,a',op')=>t::zcu s f a' op'
  | none=>[])=_
 rw [h]
def StT (pre:List Tok) (vs:List Value) (_:Wd):Prop:=∃ t,pre.getLast?=some t/\vs=[.agg (je.enc t).toArray,i64 (jm t)]
theorem zoB {g:Nat} {w:Wd}:Calls PG 238 #[At0 g] w fun e w'=>e = .returned (.func (.func 270) #[] #[.pointer (some ⟨w.heap.size,0,none⟩)])/\w'=w.alloc (.cells #[At0 g] 354):=by
 refine zI 4 [At0 g] Tryz.func238 ?_;exact⟨rfl,rfl⟩
theorem zm6 {g bx:Nat} {s:List UInt8} {W0:Wd} (h:ScV W0 g s 0 false) (hbx:W0.heap[bx]?=some (.cells #[At0 g] 354 (0,0))) (hne:bx≠g) (hs:s.length<=140737488351232) :
  zsI PG 270 [At0 bx] (qV s) W0 (fun k=>k=bx) (fun k=>k=g) StT:=by
 intro yl Fp J Jx W hsz hrd hrf hJ hJx hy h0;have hbW:W.heap[bx]?=some (.cells #[At0 g] 354 (0,0)):=(hrd bx (.inl rfl)).trans hbx;have hgW:ScV W g s 0 false:=(hrd g (.inr rfl)).trans h;have hbs:bx<W0.heap.size:=hlt hbx;have hgs:g<W0.heap.size:=hlt h;refine zI 23 [.func (.yield yl) #[] #[],At0 bx] Tryz.func270 ?_
 let Inv:List Tok->Wd->Prop:=fun pre X=>J pre X/\W.heap.size<=X.heap.size/\X.heap[bx]?=some (.cells #[At0 g] 354 (0,0))/\¬ Fp X bx
 have stepG:∀ pre X Y,Inv pre X->X.grownBy Y (some g)->Inv pre Y/\∀ k,Fp Y k->Fp X k:=fun pre X Y ⟨h1,h2,h3,h4⟩ hg=>by
  have hst:StepO W.heap.size (fun k=>k=g) Fp X Y:=⟨hg.os,hg.tape,hg.output,hg.size,fun k hk hf=>hg.block k hk (fun e=>by
   have e:g=k:=(by simpa using e:k=g).symm;rcases hf with hf | hf
   ·exact hf.2 e.symm
   ·exact (hJ.lt _ _ _ h1 hf).2 e.symm)⟩
  obtain⟨j1,j2⟩:=hJ.step _ _ _ h1 hst;refine⟨⟨j1,UX h2 hg.size,(hg.block _ (hlt h3) (fun e=>hne (by simpa using e))).trans h3,fun hf=>h4 (j2 _ hf)⟩,j2⟩
 have stepB:∀ pre X Y,Inv pre X->Bw X Y->Inv pre Y/\∀ k,Fp Y k->Fp X k:=fun pre X Y hI hb=>stepG pre X Y hI (zh hb);have I0:Inv [] W:=⟨h0,Gh _,hbW,hrf bx rfl⟩;refine⟨_,zc (za hbW) (i:=0) rfl,cmo (zpj hgW (Gj _) hs) ?_⟩;rintro e Y ⟨t,a,op,ok,rfl,hok,hno,ha,hY,gY⟩;obtain⟨I1,_⟩:=stepG [] W Y I0 gY;refine zl (X:=Y) (v := .agg (je.enc t).toArray) zkj rfl rfl rfl fun Z hbZ fZ sZ=>?_;have fZ:Z.heap[Y.heap.size]?=some (.cells (je.enc t).toArray 311 (0,0)):=fZ;obtain⟨I2,q2⟩:=stepB [] Y Z I1 hbZ;refine⟨List Tok×Nat×Nat×Bool×Bool×Tok×Nat,fun q=>⟨[(0,.func (.yield yl) #[] #[]),(1,At0 bx),(3,.pointer (some ⟨q.2.2.2.2.2.2,0,none⟩)),(4,.bool q.2.2.2.2.1)],[]⟩,
  fun q X=>Inv q.1 X/\(q.2.2.2.2.1=true->qV s=q.1++q.2.2.2.2.2.1::zcu s q.2.1 q.2.2.1 q.2.2.2.1)/\(q.2.2.2.2.1=false->qV s=q.1)/\(q.2.2.2.2.1=true->2*(s.length-q.2.2.1)+bOp q.2.2.2.1<q.2.1)/\q.2.2.1<=s.length/\ScV X g s q.2.2.1 q.2.2.2.1 /\
   X.heap[q.2.2.2.2.2.2]?=some (.cells (je.enc q.2.2.2.2.2.1).toArray 311 (0,0))/\W.heap.size<=q.2.2.2.2.2.2/\¬ Fp X q.2.2.2.2.2.2/\(q.2.2.2.2.1=true->(q.2.2.2.2.2.1.kind=3->q.2.2.2.2.2.1.text≠[])/\q.2.2.2.2.2.1.text.length<=s.length),
  fun q=>q.2.1,([],2*s.length+2,a,op,ok,t,Y.heap.size),(cvE rfl rfl),⟨I2,?_,?_,?_,ha,hY.below hbZ,fZ,gY.size,?_,?_⟩,?_⟩
 ·intro h1;exact zhR (hok h1)
 ·intro h1;exact zhQ (hno h1)
 ·intro h3;have:=(zdp (hok h3) (Gj _)).2.1;have h0:bOp false=0:=rfl;dsimp only;omega
 ·intro hf;have h9:Y.heap.size<Y.heap.size:=(hJ.lt _ _ _ I1.1 (q2 _ hf)).1;omega
 ·intro h1;exact (zdp (hok h1) (Gj _)).2.2
 clear I2 q2 fZ hbZ sZ I1 gY hY hok hno ha;rintro⟨pre,f,a,op,ok,t,tb⟩ X ⟨hI,h1,h2,hf,ha,hX,ft,htb,hft,hgd⟩;dsimp only at hI h1 h2 hf ha hX ft htb hft hgd ⊢;refine biE (fun hok=>?_) fun hok=>?_
 ·have hok:ok=true:=hok;subst hok;have h1:=h1 rfl;have hf:=hf rfl;obtain⟨g1,g2⟩:=hgd rfl;have hpre:(pre++[t]) <+: qV s:=⟨zcu s f a op,by rw [h1];simp⟩;refine DrawE.ord [4] [0,1,2,3,4,5] (by kernel_rfl) ⟨_,rfl,za (hdr ft),hlt (hdr ft),_,rfl,za (hdr ft),hlt (hdr ft),cmo (zrC t g1 (by omega) X.drew) ?_⟩;rintro e U ⟨rfl,hbU⟩;refine⟨hbU,?_⟩;have hXU:Bw X U:=(Gm _ X).drew.trans hbU;obtain⟨IU,qU⟩:=stepB pre X U hI hXU;have fU:=zb hXU ft;have hU:=hX.below hXU;have hftU:¬ Fp U tb:=fun h=>hft (qU _ h);refine YieldR.mono (hy pre t _ U IU.1 ⟨t,by simp,rfl⟩ hpre) ?_;rintro v V (⟨rfl,hJV,hKV⟩ | ⟨rfl,hJV⟩)
  ·refine Gs (fun h=>by cases h) (fun _=>?_);have IU':=IU;obtain⟨_,iu2,iu3,iu4⟩:=IU';have hUs:=hKV.size;have hgF:¬ Fp U g:=fun h=>(hJ.lt _ _ _ IU.1 h).2 rfl;have hbV:V.heap[bx]?=_:=(hKV.same bx (hlt iu3) iu4).trans iu3;have hV:ScV V g s a op:=(hKV.same g (hlt hU) hgF).trans hU;have fV:=(hKV.same tb (hlt fU) hftU).trans fU;have nF:∀ k,k<U.heap.size->¬ Fp U k->¬ Fp V k:=fun k hk h1 h2=>by
    rcases hKV.fp k h2 with h3 | h3
    ·exact h1 h3
    ·omega
   have IV:Inv (pre++[t]) V:=⟨hJV,by omega,hbV,nF bx (hlt iu3) iu4⟩;refine⟨_,rfl,za fV,hlt fV,zl (X:=V) (v := .agg (je.enc t).toArray) zkj rfl rfl rfl fun R hbR fR sR=>?_⟩;have fR:R.heap[V.heap.size]?=some (.cells (je.enc t).toArray 311 (0,0)):=fR;obtain⟨IR,qR⟩:=stepB (pre++[t]) V R IV hbR;have hnR:¬ Fp R V.heap.size:=fun h=>by have:=(hJ.lt _ _ _ IV.1 (qR _ h)).1;omega
   refine⟨_,zc (za IR.2.2.1) (i:=0) rfl,cmo (zpj (hV.below hbR) ha hs) ?_⟩;rintro e L ⟨t',a',op',ok',rfl,hok',hno',ha',hL,gL⟩;obtain⟨IL,qL⟩:=stepG (pre++[t]) R L IR gL;have hVs:W.heap.size<=V.heap.size:=IV.2.1;have hgV:g≠V.heap.size:=by omega
   have hbV2:bx≠V.heap.size:=by omega
   have fL:L.heap[V.heap.size]?=some (.cells (je.enc t).toArray 311 (0,0)):=(gL.block _ (hlt fR) (fun e=>hgV (by simpa using e.symm))).trans fR;refine zr (v := .agg (je.enc t').toArray) zkj fL rfl rfl rfl ?_;obtain⟨f',rfl⟩:∃ f',f=f'+1:=⟨f-1,by omega⟩;have hnL:¬ Fp L V.heap.size:=fun h=>hnR (qL _ h);have hst:StepO W.heap.size (fun k=>k=g) Fp L (L.setRow V.heap.size (Value.agg (je.enc t').toArray).cells):=⟨rfl,rfl,rfl,by simp,fun k hk hf=>zp (fun e=>by
    subst e;rcases hf with hf | hf
    ·omega
    ·exact hnL hf)⟩
   obtain⟨j1,j2⟩:=hJ.step _ _ _ IL.1 hst;refine⟨(pre++[t],f',a',op',ok',t',V.heap.size),(cvE rfl rfl),⟨⟨j1,by simp;exact IL.2.1,(zp hbV2).trans IL.2.2.1,fun h=>IL.2.2.2 (j2 _ h)⟩,?_,?_,?_,ha',(zp hgV).trans hL,zm fL,hVs,fun h=>hnL (j2 _ h),?_⟩,by show f'<f'+1;omega⟩
   ·intro h3;rw [h1];show pre++t::zcu s (f'+1) a op=(pre++[t])++_;rw [zhR (hok' h3)];simp
   ·intro h3;rw [h1];show pre++t::zcu s (f'+1) a op=pre++[t];rw [zhQ (hno' h3)]
   ·intro h3;have:=(zdp (hok' h3) ha).2.1;dsimp only;omega
   ·intro h3;exact (zdp (hok' h3) ha).2.2
  ·exact Gs (fun _=>Gs ⟨_,rfl⟩ (.inr ⟨_,hpre,hJV⟩)) (fun h=>by cases h)
 ·have hok:ok=false:=hok;subst hok;have h2:=h2 rfl;exact⟨⟨_,rfl⟩,.inl (by rw [h2];exact hI.1)⟩
def zdt (s:List UInt8):Bool:=decide (s.length<=16384)&&(qV s).all (fun t=>decide (jm t=0))
theorem zjv {s:List UInt8}:∀ {f a:Nat} {op:Bool},(zcu s f a op).length<=f
 | 0,_,_=>Gh _
 | f+1,a,op=>by
  unfold zcu
  split
  ·exact Nat.succ_le_succ zjv
  ·exact Gj _
def FpX (L:Nat) (X:Wd) (k:Nat):Prop:=k=L\/k=L+1\/k=L+2\/∃ a n cap,X.heap[L]?=some (.cells #[.slice (some a) n cap] 306 (0,0))/\k=a.block
structure ResX (L:Nat) (X:Wd) (v:Value) (pl er:Int):Prop where
 l:X.heap[L]?=some (.cells #[v] 306 (0,0))
 p:X.heap[L+1]?=some (.cells #[i64 pl] 3 (0,0))
 e:X.heap[L+2]?=some (.cells #[i64 er] 42 (0,0))
def JX (w:Wd) (L B:Nat) (pre:List Tok) (X:Wd):Prop:=Bw w X/\(∀ t∈pre,jm t=0)/\∃ p cap,ResX L X (.slice p pre.length cap) 0 0/\OwnS je 311 B X p cap pre
def JxX (w:Wd) (L:Nat) (pre:List Tok) (X:Wd):Prop:=Bw w X/\(∃ t∈pre,jm t≠0)/\∃ pl er,ResX L X (.slice none 0 0) pl er/\er≠0
theorem FpX.row {L:Nat} {X:Wd} {p:OA} {n cap:Nat} {pl er:Int} (h:ResX L X (.slice p n cap) pl er) {k:Nat} (hf:FpX L X k):k=L\/k=L+1\/k=L+2\/∃ a,p=some a/\k=a.block:=by
 rcases hf with hf | hf | hf | ⟨a,n',cap',h1,h2⟩
 ·exact .inl hf
 ·exact .inr (.inl hf)
 ·exact .inr (.inr (.inl hf))
 ·have:=h.l;rw [h1] at this;simp at this;exact .inr (.inr (.inr ⟨a,this.1.symm,h2⟩))
theorem ResX.same {L:Nat} {A B:Wd} {v:Value} {pl er:Int} (h:ResX L A v pl er) (hs:∀ k,k=L\/k=L+1\/k=L+2->B.heap[k]?=A.heap[k]?):ResX L B v pl er :=
 ⟨(hs L (.inl rfl)).trans h.l,(hs _ (.inr (.inl rfl))).trans h.p,(hs _ (.inr (.inr rfl))).trans h.e⟩
theorem JX.iter {w:Wd} {L B n0 g:Nat} (hw:w.heap.size<=L) (hL:L+2<g) (hg:g<n0) (hB:B=n0):IterJO n0 (fun k=>k=g) (FpX L) (JX w L B):=by
 subst hB;refine⟨fun pre A C ⟨hb,hf,p,cap,hr,ho⟩ hs=>?_,fun pre A k ⟨hb,hf,p,cap,hr,ho⟩ hk=>?_⟩
 ·have hr':ResX L C (.slice p pre.length cap) 0 0:=hr.same fun k hk=>hs.same k (by rcases hk with rfl | rfl | rfl;exact hlt hr.l;exact hlt hr.p;exact hlt hr.e) (.inl ⟨by omega,by omega⟩);have zbT:∀ a,p=some a->C.heap[a.block]?=A.heap[a.block]?:=fun a ha=>by
   rcases ho.inv with ⟨rfl,_⟩ | ⟨g',cur,rfl,_,hg',_⟩
   ·cases ha
   ·cases ha
    exact hs.same _ (hlt hg') (.inr (.inr (.inr (.inr ⟨_,_,_,hr.l,rfl⟩))))
  refine⟨⟨⟨hs.os.trans hb.os,hs.tape.trans hb.tape,hs.output.trans hb.output,UX hb.size hs.size,fun k hk=>(hs.same k (nL hk hb.size) (.inl ⟨by omega,by omega⟩)).trans (hb.block k hk)⟩,hf,p,cap,hr',ho.same zbT⟩,fun k hk=>?_⟩;rcases FpX.row hr' hk with rfl | rfl | rfl | ⟨a,rfl,rfl⟩
  ·exact .inl rfl
  ·exact .inr (.inl rfl)
  ·exact .inr (.inr (.inl rfl))
  ·exact .inr (.inr (.inr ⟨_,_,_,hr.l,rfl⟩))
 ·rcases FpX.row hr hk with rfl | rfl | rfl | ⟨a,rfl,rfl⟩
  ·exact⟨hlt hr.l,by omega⟩
  ·exact⟨hlt hr.p,by omega⟩
  ·exact⟨hlt hr.e,by omega⟩
  ·rcases ho.inv with ⟨h,_⟩ | ⟨g',cur,h,hB,hg',_⟩
   ·cases h
   ·cases h
    exact⟨hlt hg',by show ¬ g'=g;omega⟩
theorem JxX.iter {w:Wd} {L n0 g:Nat} (hw:w.heap.size<=L) (hL:L+2<g) (hg:g<n0):IterJO n0 (fun k=>k=g) (FpX L) (JxX w L):=by
 refine⟨fun pre A C ⟨hb,hf,pl,er,hr,he⟩ hs=>?_,fun pre A k ⟨hb,hf,pl,er,hr,he⟩ hk=>?_⟩
 ·have hr':ResX L C (.slice none 0 0) pl er:=hr.same fun k hk=>hs.same k (by rcases hk with rfl | rfl | rfl;exact hlt hr.l;exact hlt hr.p;exact hlt hr.e) (.inl ⟨by omega,by omega⟩);refine⟨⟨⟨hs.os.trans hb.os,hs.tape.trans hb.tape,hs.output.trans hb.output,UX hb.size hs.size,fun k hk=>(hs.same k (nL hk hb.size) (.inl ⟨by omega,by omega⟩)).trans (hb.block k hk)⟩,hf,pl,er,hr',he⟩,fun k hk=>?_⟩;rcases FpX.row hr' hk with rfl | rfl | rfl | ⟨a,h,_⟩
  ·exact .inl rfl
  ·exact .inr (.inl rfl)
  ·exact .inr (.inr (.inl rfl))
  ·cases h
 ·rcases FpX.row hr hk with rfl | rfl | rfl | ⟨a,h,_⟩
  ·exact⟨hlt hr.l,by omega⟩
  ·exact⟨hlt hr.p,by omega⟩
  ·exact⟨hlt hr.e,by omega⟩
  ·cases h
abbrev nl0:Value := .slice none 0 0
theorem zvj (s:List UInt8) (hs:s.length<=140737488351232) (w:Wd) :
  Calls PG 221 #[zx s] w fun e w'=>∃ p cap n pl er,e = .returned (.tuple #[.slice p n cap,i64 pl,i64 er])/\(zdt s=true->er=0/\n=(qV s).length/\SlR je w' p (qV s))/\(zdt s=false->er≠0)/\Bw w w':=by
 refine zU 27 [zx s] (.c .p (.c .p .p)) Tryz.func221 ?_;obtain⟨L,hL⟩:=nm (w.heap.size);have z1:(w.alloc (.cells #[nl0] 306)).heap.size=L+1:=by rw [wz,hL]
 have z2:((w.alloc (.cells #[nl0] 306)).alloc (.cells #[i64 0] 3)).heap.size=L+2:=by rw [wz,z1]
 obtain⟨W0,hW0⟩:=nm (((w.alloc (.cells #[nl0] 306)).alloc (.cells #[i64 0] 3)).alloc (.cells #[i64 0] 42));have hb0:Bw w W0:=by rw [hW0];exact (((zba _ _)).alloc (by simp) _).alloc (by rw [z2];omega) _
 have hs0:W0.heap.size=L+3:=by rw [hW0,wz,z2]
 have r0:ResX L W0 nl0 0 0:=by
  rw [hW0];refine⟨?_,?_,?_⟩
  ·rw [hL];exact qe _ (qe _ (zt w _))
  ·rw [<- z1];exact qe _ (zt _ _)
  ·rw [<- z2];exact zt _ _
 have p1:some (Value.pointer (some ⟨(w.alloc (.cells #[nl0] 306)).heap.size,0,none⟩))=some (At0 (L+1)):=by rw [z1]
 have p2:some (Value.pointer (some ⟨((w.alloc (.cells #[nl0] 306)).alloc (.cells #[i64 0] 3)).heap.size,0,none⟩))=some (At0 (L+2)):=by rw [z2]
 have put3:∀ (X:Wd) (v0:Value) (a0 b0:Int),ResX L X v0 a0 b0->∀ (pl er:Int) (K:Wd->Prop),(∀ Y,ResX L Y (.slice none 0 0) pl er->Below w.heap.size X Y->X.heap.size=Y.heap.size->(∀ k,k≠L->k≠L+1->k≠L+2->Y.heap[k]?=X.heap[k]?)->K Y) ->
   SatR ((storeVar 306 ⟨L,0,none⟩ (.slice none 0 0)).run PG X) fun _ Y1=>SatR ((storeVar 3 ⟨L+1,0,none⟩ (i64 pl)).run PG Y1) fun _ Y2=>SatR ((storeVar 42 ⟨L+2,0,none⟩ (i64 er)).run PG Y2) fun _ Y3=>K Y3:=by
  intro X v0 a0 b0 hr pl er K k;refine zr (v := .slice none 0 0) zrs hr.l rfl rfl rfl ?_;have q1:(X.setRow L (Value.slice none 0 0).cells).heap[L+1]?=some (.cells #[i64 a0] 3 (0,0)):=(zp (by omega)).trans hr.p;refine zr (v:=i64 pl) k3 q1 rfl rfl rfl ?_;have q2:((X.setRow L (Value.slice none 0 0).cells).setRow (L+1) (i64 pl).cells).heap[L+2]?=some (.cells #[i64 b0] 42 (0,0)):=(zp (by omega)).trans ((zp (by omega)).trans hr.e);refine zr (v:=i64 er) k42 q2 rfl rfl rfl (k _ ⟨?_,?_,zm q2⟩ ?_ (by simp) ?_)
  ·exact (zp (by omega)).trans ((zp (by omega)).trans (zm hr.l))
  ·exact (zp (by omega)).trans (zm q1)
  ·exact zk (zk (zk (Gm _ X) (by omega) _) (by omega) _) (by omega) _
  ·intro k h1 h2 h3;exact (zp h3).trans ((zp h2).trans (zp h1))
 refine⟨Unit,fun _=>⟨[(0,zx s),(2,At0 L),(3,At0 (L+1)),(4,At0 (L+2))],[]⟩,fun _ X=>W0=X,?_,?_⟩
 ·exact⟨(),⟨.cons rfl (.cons (by rw [hL];rfl) (.cons p1 (.cons p2 .nil))),rfl⟩,hW0⟩
 clear hW0 p1 p2 z1 z2;rintro _ _ rfl;refine⟨Unit,fun _=>⟨[(0,zx s),(2,At0 L),(3,At0 (L+1)),(4,At0 (L+2))],[]⟩,fun _ X=>s.length<=16384/\W0=X,?_,?_⟩
 ·refine biE (fun h=>?_) fun h=>?_
  ·have h:(16384:Int)<(s.length:Int):=dT h;have hno:zdt s=false:=by unfold zdt;rw [Ul (by omega)];rfl
   exact put3 W0 _ _ _ r0 0 3 _ fun Y hY hb hsz _=>⟨_,zc (za hY.l) (i:=0) rfl,_,zc (za hY.p) (i:=0) rfl,_,zc (za hY.e) (i:=0) rfl,none,0,0,0,3,rfl,fun h=>(by rw [hno] at h;cases h),fun _=>by decide,hb0.trans hb⟩
  ·have h:¬ (16384:Int)<(s.length:Int):=dF h;exact⟨(),(cvE rfl rfl),by omega,rfl⟩
 rintro _ _ ⟨hln,rfl⟩;refine⟨[zx s,i64 0],rfl,[zx s,i64 0,.bool false],rfl,zl (X:=W0) (v := .agg #[zx s,i64 0,.bool false]) zvK rfl rfl rfl fun V hbV fV sV=>?_⟩;have hV:ScV V W0.heap.size s 0 false:=fV;refine cmo zoB ?_;rintro e W1 ⟨rfl,hW1⟩;have sW1:W1.heap.size=W0.heap.size+2:=by rw [hW1,wz,sV]
 have hb1:Bw V W1:=by rw [hW1];exact (zba _ _)
 have hbx:W1.heap[W0.heap.size+1]?=some (.cells #[.pointer (some ⟨W0.heap.size,0,none⟩)] 354 (0,0)):=by
  rw [hW1,<- sV];exact zt V _
 have hg1:ScV W1 W0.heap.size s 0 false:=hV.below hb1;have hb01:Bw W0 W1:=zst hbV hb1;have hbw1:Bw w W1:=zst hb0 hb01;have r1:ResX L W1 nl0 0 0:=r0.same fun k hk=>hb01.block k (by omega);have hlen:(qV s).length<=40000:=UX zjv (by omega);have hok1:(∀ t∈qV s,jm t=0)->zdt s=true:=fun h=>by
  unfold zdt;rw [Ux hln,UD,Ql];exact fun t ht=>Ux (h t ht)
 have hok2:(∃ t∈qV s,jm t≠0)->zdt s=false:=fun ⟨t,ht,hf⟩=>by
  unfold zdt;rw [Ux hln,UD,KO];exact⟨t,ht,by simpa using hf⟩
 rw [sV];refine zs1 (za9 _) rfl (lb := #[.pointer (some ⟨W0.heap.size+1,0,none⟩)]) rfl rfl (zm6 hg1 hbx (by omega) hs) (Gh _) (fun k hk=>⟨by rcases hk with rfl | rfl <;> omega,rfl⟩) (fun pre vs W ⟨t,_,h⟩=>by rw [h];rfl) (by decide)
  (FpX L) (JX w L W1.heap.size) (fun ex pre X=>ex = .ret/\JxX w L pre X) ?_ (JX.iter (by omega) (by omega) (by omega) rfl) (fun ex=>?_) ?_ ?_ ?_ ?_
 ·intro k hk hf;rcases FpX.row r1 hf with h | h | h | ⟨a,h,_⟩
  ·omega
  ·omega
  ·omega
  ·cases h
 ·have hJ:=JxX.iter (w:=w) (L:=L) (n0:=W1.heap.size) (g:=W0.heap.size) (by omega) (by omega) (by omega);exact⟨fun pre A C ⟨h1,h2⟩ hs=>⟨⟨h1,(hJ.step _ _ _ h2 hs).1⟩,(hJ.step _ _ _ h2 hs).2⟩,fun pre A k ⟨_,h2⟩ hf=>hJ.lt _ _ _ h2 hf⟩
 ·exact⟨hbw1,fun t ht=>(by cases ht),none,0,r1,.nil⟩
 ·intro yl pre x vs W hyl hpre hJ hst hfy hly;obtain⟨t,ht,rfl⟩:=hst;have ht:t=x:=by simpa using ht.symm
  subst ht;have hIt:=JX.iter (w:=w) (L:=L) (B:=W1.heap.size) (n0:=W1.heap.size) (g:=W0.heap.size) (by omega) (by omega) (by omega) rfl;refine zl (X:=W) (v := .agg (je.enc t).toArray) zkj rfl rfl rfl fun R hbR fR sR=>?_;have fR:R.heap[W.heap.size]?=some (.cells (je.enc t).toArray 311 (0,0)):=fR;obtain⟨jR,qR⟩:=hIt.step pre W R hJ (Step.of_below hbR).o;refine⟨rfl,Keeps.of_below hbR (fun k hk => .inl (qR k hk)),jR,?_⟩;rintro o W2 hW2 ⟨hbW,hfl,p,cap,hr,ho⟩ hF2;have f2:W2.heap[W.heap.size]?=some (.cells (je.enc t).toArray 311 (0,0)):=by rw [hW2,zj (by omega)];exact fR
  have s2:W2.heap.size=R.heap.size:=by rw [hW2];simp [World.putObj]
  have hLW:W1.heap.size<=W.heap.size:=by
   have:=hlt hr.l;obtain⟨hbW',_⟩:=hJ;omega
  refine biE (fun h=>?_) fun h=>?_
  ·have h:jm t≠0:=by
    have h1:(!decide (jm t=0))=true:=h;simpa using h1
   have hrd:ResX L W2.drew (.slice p pre.length cap) 0 0:=⟨hr.l,hr.p,hr.e⟩;have hd:W2.drew.heap.size=W2.heap.size:=rfl;have fin:∀ Y,ResX L Y (.slice none 0 0) t.pos (jm t)->Below w.heap.size W2.drew Y->W2.drew.heap.size=Y.heap.size->(∀ k,k≠L->k≠L+1->k≠L+2->Y.heap[k]?=W2.drew.heap[k]?)->(Exit.ret=Exit.ret/\JxX w L (pre++[t]) Y)/\Keeps (FpX L) W2 Y:=fun Y hY hbY hsY hoY=>by
    have hbY2:Bw w Y:=hbW.trans ((Gm w.heap.size W2).drew.trans hbY);refine⟨⟨rfl,hbY2,⟨t,by simp,h⟩,_,_,hY,h⟩,hbY.os,hbY.tape,hbY.output,by rw [<- hsY,hd];exact Gh _,fun k hk hf=>hoY k (fun e=>hf (.inl e)) (fun e=>hf (.inr (.inl e))) (fun e=>hf (.inr (.inr (.inl e)))),fun k hk=>?_⟩;rcases FpX.row hY hk with h1 | h1 | h1 | ⟨a,h1,_⟩
    ·exact .inl (.inl h1)
    ·exact .inl (.inr (.inl h1))
    ·exact .inl (.inr (.inr (.inl h1)))
    ·cases h1
   refine DrawE.treeQ [3,4,5] (.op 0 (.op 2 (.alt (.op 3 (.op 1 (.op 4 (.op 5 .nil)))) (.op 1 (.op 3 (.op 4 (.op 5 .nil))))))) (by kernel_rfl) (Gs ?_ ?_)
   ·refine zr (v := .slice none 0 0) zrs hrd.l rfl rfl rfl ?_;have q0:(W2.drew.setRow L (Value.slice none 0 0).cells).heap[W.heap.size]?=some (.cells (je.enc t).toArray 311 (0,0)):=(zp (by omega)).trans (hdr f2);refine⟨_,zc (za q0) (i:=2) rfl,?_⟩;have q1:(W2.drew.setRow L (Value.slice none 0 0).cells).heap[L+1]?=some (.cells #[i64 0] 3 (0,0)):=(zp (by omega)).trans hrd.p;refine zr (v:=i64 t.pos) k3 q1 rfl rfl rfl ?_;have q2:((W2.drew.setRow L (Value.slice none 0 0).cells).setRow (L+1) (i64 t.pos).cells).heap[L+2]?=some (.cells #[i64 0] 42 (0,0)):=(zp (by omega)).trans ((zp (by omega)).trans hrd.e);refine zr (v:=i64 (jm t)) k42 q2 rfl rfl rfl (fin _ ⟨?_,?_,zm q2⟩ ?_ (by simp) ?_)
    ·exact (zp (by omega)).trans ((zp (by omega)).trans (zm hrd.l))
    ·exact (zp (by omega)).trans (zm q1)
    ·exact zk (zk (zk (Gm _ W2.drew) (by omega) _) (by omega) _) (by omega) _
    ·intro k h1 h2 h3;exact (zp h3).trans ((zp h2).trans (zp h1))
   ·exact⟨_,zc (za (hdr f2)) (i:=2) rfl,put3 W2.drew _ _ _ hrd t.pos (jm t) _ fin⟩
  ·have h:jm t=0:=by
    have h1:(!decide (jm t=0))=false:=h;simpa using h1
   refine⟨_,zc (za hr.l) (i:=0) rfl,_,rfl,za f2,hlt f2,⟨by decide,by decide,rfl⟩,je.enc t,zbh (je.len t) rfl,?_⟩;have hpl:pre.length+1<=40000:=by
    have:=hpre.length_le;simp at this;omega
   refine qQ (E:=je) (news:=[t]) (B:=W1.heap.size) Tryz.underlying306 zkj rfl rfl rfl (ho.alloc _) rfl (qt je t) (by simp;omega) (by show pre.length+1<=_;omega) (by show (pre.length+1)*32<=_;omega) ?_;intro p3 cap3 W4 ho4 hg4 hb4 hat;have hL2:L<W2.heap.size:=hlt hr.l;have hr3:ResX L (W2.alloc (.cells (je.enc t).toArray 311)) (.slice p pre.length cap) 0 0:=⟨qe _ hr.l,qe _ hr.p,qe _ hr.e⟩;have hr4:ResX L W4 (.slice p pre.length cap) 0 0:=hr3.same fun k hk=>hb4.block k (by omega);refine zr (v := .slice p3 (pre++[t]).length cap3) zrs hr4.l rfl rfl rfl ?_;have hr5:ResX L (W4.setRow L (Value.slice p3 (pre++[t]).length cap3).cells) (.slice p3 (pre++[t]).length cap3) 0 0:=⟨zm hr4.l,(zp (by omega)).trans hr4.p,(zp (by omega)).trans hr4.e⟩;have hbB:Below w.heap.size W2 (W4.setRow L (Value.slice p3 (pre++[t]).length cap3).cells) :=
    zk (((Gm _ W2).alloc (by omega) _).trans (hb4.mono (by omega))) (by omega) _
   refine Gs ⟨hbW.trans hbB,fun u hu=>?_,p3,cap3,hr5,ho4.same fun a ha=>?_⟩ ⟨hbB.os,hbB.tape,hbB.output,hbB.size,fun k hk hf=>?_,fun k hk=>?_⟩
   ·rcases QW.1 hu with hu | hu
    ·exact hfl u hu
    ·simp only [KC] at hu;rw [hu];exact h
   ·refine zp ?_;rcases ho4.inv with ⟨h1,_⟩ | ⟨g',_,h1,h2,_⟩
    ·rw [h1] at ha;cases ha
    ·rw [h1] at ha;cases ha;dsimp only;omega
   ·have h1:k≠L:=fun e=>hf (.inl e);rw [zp h1];refine (hg4.block k (by simp;omega) ?_).trans ?_
    ·intro e
     cases p with
     | none=>simp [Value.ownBlock] at e
     | some a =>
      simp only [Value.ownBlock,Qb] at e;exact hf (.inr (.inr (.inr ⟨a,_,_,hr.l,e⟩)))
    ·show (W2.heap.push _)[k]?=_;rw [Array.getElem?_push,GB (Nat.ne_of_lt hk)]
   ·rcases FpX.row hr5 hk with h1 | h1 | h1 | ⟨a,ha,rfl⟩
    ·exact .inl (.inl h1)
    ·exact .inl (.inr (.inl h1))
    ·exact .inl (.inr (.inr (.inl h1)))
    ·rcases hat a ha with h1 | h1
     ·exact .inl (.inr (.inr (.inr ⟨a,_,_,h1▸hr.l,rfl⟩)))
     ·refine .inr ?_;rw [h1];simp
 ·intro D W hD hfD hJ hdef;obtain⟨hbW,hfl,p,cap,hr,ho⟩:=hJ;refine⟨_,zc (za hr.l) (i:=0) rfl,zr (v := .slice p (qV s).length cap) zrs hr.l rfl rfl rfl ?_⟩;have q1:(W.setRow L (Value.slice p (qV s).length cap).cells).heap[L+1]?=some (.cells #[i64 0] 3 (0,0)):=(zp (by omega)).trans hr.p;refine zr (v:=i64 0) k3 q1 rfl rfl rfl ?_;have q2:((W.setRow L (Value.slice p (qV s).length cap).cells).setRow (L+1) (i64 0).cells).heap[L+2]?=some (.cells #[i64 0] 42 (0,0)):=(zp (by omega)).trans ((zp (by omega)).trans hr.e);refine zr (v:=i64 0) k42 q2 rfl rfl rfl ?_;obtain⟨S,hS⟩:=nm (((W.setRow L (Value.slice p (qV s).length cap).cells).setRow (L+1) (i64 0).cells).setRow (L+2) (i64 0).cells);have rS:ResX L S (.slice p (qV s).length cap) 0 0:=by
   rw [hS];exact⟨(zp (by omega)).trans ((zp (by omega)).trans (zm hr.l)),(zp (by omega)).trans (zm q1),zm q2⟩
  have bS:Below w.heap.size W S:=by rw [hS];exact zk (zk (zk (Gm _ W) (by omega) _) (by omega) _) (by omega) _
  have oS:∀ k,k≠L->k≠L+1->k≠L+2->S.heap[k]?=W.heap[k]?:=fun k h1 h2 h3=>by rw [hS];exact (zp h3).trans ((zp h2).trans (zp h1))
  have dS:S.heap[D]?=some (.deferred (some [])):=(oS D (by omega) (by omega) (by omega)).trans hdef;rw [<- hS];refine⟨_,rfl,dS,?_⟩;have rP:ResX L (S.putObj D (.deferred none)) (.slice p (qV s).length cap) 0 0:=rS.same fun k hk=>zj (by omega);refine⟨_,zc (za rP.l) (i:=0) rfl,_,zc (za rP.p) (i:=0) rfl,_,zc (za rP.e) (i:=0) rfl,p,cap,(qV s).length,0,0,rfl,fun _=>⟨rfl,rfl,?_⟩,fun h=>?_,z8 (hbW.trans bS) (by omega) _⟩
  ·exact (ho.same fun a ha=>by
    have hne:a.block≠L/\a.block≠L+1/\a.block≠L+2/\a.block≠D:=by
     rcases ho.inv with ⟨h1,_⟩ | ⟨g',_,h1,h2,h3,_⟩
     ·rw [h1] at ha;cases ha
     ·rw [h1] at ha;cases ha;refine⟨by dsimp only;omega,by dsimp only;omega,by dsimp only;omega,fun e=>?_⟩;have e:g'=D:=e;rw [e,hdef] at h3;cases h3
    exact (zj hne.2.2.2).trans (oS _ hne.1 hne.2.1 hne.2.2.1)).row
  ·rw [hok1 hfl] at h;cases h
 ·rintro D ex pre W hD hfD hpre ⟨rfl,hbW,⟨t,ht,hft⟩,pl,er,hr,her⟩ hdef;refine⟨_,rfl,hdef,?_⟩;have rP:ResX L (W.putObj D (.deferred none)) (.slice none 0 0) pl er:=hr.same fun k hk=>zj (by omega);refine⟨_,zc (za rP.l) (i:=0) rfl,_,zc (za rP.p) (i:=0) rfl,_,zc (za rP.e) (i:=0) rfl,none,0,0,pl,er,rfl,fun h=>?_,fun _=>her,z8 hbW (by omega) _⟩;rw [hok2 ⟨t,hpre.subset ht,hft⟩] at h;cases h
theorem zpB (s:List UInt8) (hs:s.length<=140737488351232) (w:Wd):CB 182 #[zx s] w (.bool (zdM s)):=by
 refine zI 34 [zx s] Tryz.func182 ?_;have hdef:zdM s=(zdt s&&zoz (qV s) s):=by
  unfold zdM zdt;rw [Bool.and_assoc]
 refine cmo (zvj s hs w) ?_;rintro e V ⟨p,cap,n,pl,er,rfl,h1,h2,hb⟩
 cases hk:zdt s with
 | false =>
  have her:=h2 hk;rw [hdef,hk,Un];exact brN (by exact Ul her) (brF (brF ⟨rfl,hb⟩))
 | true =>
  obtain⟨rfl,rfl,hr⟩:=h1 hk;rw [hdef,hk,UD];refine brT (biE (fun h=>?_) fun h=>?_)
  ·have h:(qV s).length=2:=by have h:((qV s).length:Int)=2:=dT h;omega
   match hx:qV s,h with
   | [t,u],_ =>
    rw [hx] at hr;obtain⟨b,o,rfl,hbb,hc⟩:=hr.at (i:=0) (by simp);have hc:=hc 0 (by simp);refine⟨0,rfl,(by show 0<2;omega),_,zc hc (i:=0) rfl,?_⟩;have kd:decide ((t.kind.toNat:Int)=1)=decide (t.kind=1):=(by rw [QJ];exact jc (y:=1));refine biE (fun h=>?_) fun h=>?_
    ·have h:decide (t.kind=1)=true:=kd.symm.trans h;exact⟨0,rfl,(by show 0<2;omega),_,zc hc (i:=1) rfl,_,fun w=>zF _ _ t.text s w,rb (by unfold zoz;simp only [h,UD]),hb⟩
    ·have h:decide (t.kind=1)=false:=kd.symm.trans h;exact⟨rb (by unfold zoz;simp only [h,Un]),hb⟩
  ·have h:¬ (qV s).length=2:=by have h:¬ ((qV s).length:Int)=2:=dF h;omega
   refine brF ⟨rb ?_,hb⟩;have gen:∀ l:List Tok,¬ l.length=2->false=zoz l s:=fun l hl=>by
    match l,hl with
    | [],_=>rfl
    | [_],_=>rfl
    | [_,_],hl=>exact GD rfl hl
    | _::_::_::_,_=>rfl
   exact gen _ h
theorem zt8 (s:List UInt8) (w:Wd):Calls PG 240 #[zx s] w fun e w'=>e = .returned (.bool (zg5 s))/\w=w':=by
 refine zI 22 [zx s] Tryz.func240 ?_;refine⟨_,fun w=>zF _ _ s [116,101,115,116] w,?_⟩;refine biE (fun h=>?_) fun h0=>?_
 ·refine brE h ?_;exact⟨rb (Qm.2 ⟨[116,101,115,116],by decide,h⟩).symm,rfl⟩
 refine⟨_,fun w=>zF _ _ s [105,110,105,116] w,?_⟩;refine biE (fun h=>?_) fun h1=>?_
 ·refine brE h ?_;exact⟨rb (Qm.2 ⟨[105,110,105,116],by decide,h⟩).symm,rfl⟩
 refine⟨_,fun w=>zF _ _ s [116,104,114,101,97,100] w,?_⟩;refine biE (fun h=>?_) fun h2=>?_
 ·refine brE h ?_;exact⟨rb (Qm.2 ⟨[116,104,114,101,97,100],by decide,h⟩).symm,rfl⟩
 refine⟨_,fun w=>zF _ _ s [115,111,109,101] w,?_⟩;refine biE (fun h=>?_) fun h3=>?_
 ·refine brE h ?_;exact⟨rb (Qm.2 ⟨[115,111,109,101],by decide,h⟩).symm,rfl⟩
 refine⟨_,fun w=>zF _ _ s [110,111,110,101] w,?_⟩;refine biE (fun h=>?_) fun h4=>?_
 ·refine brE h ?_;exact⟨rb (Qm.2 ⟨[110,111,110,101],by decide,h⟩).symm,rfl⟩
 refine⟨_,fun w=>zF _ _ s [97,108,108] w,?_⟩;refine biE (fun h=>?_) fun h5=>?_
 ·refine brE h ?_;exact⟨rb (Qm.2 ⟨[97,108,108],by decide,h⟩).symm,rfl⟩
 refine⟨_,fun w=>zF _ _ s [97,99,113] w,?_⟩;refine biE (fun h=>?_) fun h6=>?_
 ·refine brE h ?_;exact⟨rb (Qm.2 ⟨[97,99,113],by decide,h⟩).symm,rfl⟩
 refine⟨_,fun w=>zF _ _ s [114,101,108] w,?_⟩;refine biE (fun h=>?_) fun h7=>?_
 ·refine brE h ?_;exact⟨rb (Qm.2 ⟨[114,101,108],by decide,h⟩).symm,rfl⟩
 refine⟨_,fun w=>zF _ _ s [115,119,97,112] w,?_⟩;refine biE (fun h=>?_) fun h8=>?_
 ·refine brE h ?_;exact⟨rb (Qm.2 ⟨[115,119,97,112],by decide,h⟩).symm,rfl⟩
 refine⟨_,fun w=>zF _ _ s [102,101,116,99,104] w,?_⟩;refine biE (fun h=>?_) fun h9=>?_
 ·refine brE h ?_;exact⟨rb (Qm.2 ⟨[102,101,116,99,104],by decide,h⟩).symm,rfl⟩
 refine⟨_,fun w=>zF _ _ s [99,97,115] w,?_⟩;refine biE (fun h=>?_) fun h10=>?_
 ·refine brE h ?_;exact⟨rb (Qm.2 ⟨[99,97,115],by decide,h⟩).symm,rfl⟩
 refine⟨_,fun w=>zF _ _ s [102,101,110,99,101] w,?_⟩;refine biE (fun h=>?_) fun h11=>?_
 ·refine brE h ?_;exact⟨rb (Qm.2 ⟨[102,101,110,99,101],by decide,h⟩).symm,rfl⟩
 refine⟨_,fun w=>zF _ _ s [108,111,97,100,115] w,?_⟩;refine biE (fun h=>?_) fun h12=>?_
 ·refine brE h ?_;exact⟨rb (Qm.2 ⟨[108,111,97,100,115],by decide,h⟩).symm,rfl⟩
 refine⟨_,fun w=>zF _ _ s [115,116,111,114,101,115] w,?_⟩;refine biE (fun h=>?_) fun h13=>?_
 ·refine brE h ?_;exact⟨rb (Qm.2 ⟨[115,116,111,114,101,115],by decide,h⟩).symm,rfl⟩
 refine⟨_,fun w=>zF _ _ s [115,107,105,112] w,?_⟩;refine biE (fun h=>?_) fun h14=>?_
 ·refine brE h ?_;exact⟨rb (Qm.2 ⟨[115,107,105,112],by decide,h⟩).symm,rfl⟩
 refine⟨_,fun w=>zF _ _ s [105,102] w,?_⟩;refine biE (fun h=>?_) fun h15=>?_
 ·refine brE h ?_;exact⟨rb (Qm.2 ⟨[105,102],by decide,h⟩).symm,rfl⟩
 refine⟨_,fun w=>zF _ _ s [116,114,117,101] w,?_⟩;refine biE (fun h=>?_) fun h16=>?_
 ·exact⟨rb (Qm.2 ⟨[116,114,117,101],by decide,h⟩).symm,rfl⟩
 exact⟨rb (by unfold zg5 zsz;simp only [UH,List.any_nil,h0,h1,h2,h3,h4,h5,h6,h7,h8,h9,h10,h11,h12,h13,h14,h15,h16];rfl),rfl⟩
theorem zt3 (s:List UInt8) (hs:s.length<=140737488351232) (w:Wd):Calls PG 222 #[zx s] w fun e w'=>e = .returned (.bool (zeU s))/\w=w':=by
 refine zU 55 [zx s] (.s .p (.c .p (.s .p (.c .p .p)))) Tryz.func222 ?_;refine⟨Unit,fun _=>⟨[(0,zx s)],[]⟩,fun _ X=>(∃ c r,s=c::r/\r.length+1<=16/\zZ c=3/\zg5 s=false)/\w=X,?_,?_⟩
 ·refine biE (fun h=>?_) fun h=>?_
  ·have h:(s.length:Int)<1:=dT h;have h0:s=[]:=Jf (by omega);subst h0;refine brT ?_;refine brT ?_;refine brT ?_;exact⟨rfl,rfl⟩
  have h:¬ (s.length:Int)<1:=dF h;obtain⟨c,r,rfl⟩:∃ c r,s=c::r:=by
   cases s with
   | nil=>simp at h
   | cons c r=>exact⟨c,r,rfl⟩
  have hdef:zeU (c::r)=(decide (r.length+1<=16)&&(decide (zZ c=3)&&(!zg5 (c::r)&&(r.all qw&&(!decide (c=114)||(decide (qP r=0)||decide (qP r<r.length))))))):=rfl;have hsz:(((bs (c::r)).size:Nat):Int)=(r.length+1:Nat):=rfl;refine biE (fun h2=>?_) fun h2=>?_
  ·have h2:(16:Int)<((r.length+1:Nat):Int):=dT h2;refine brT ?_;refine brT ?_;exact⟨rb (by rw [hdef,Ul (by omega)];rfl),rfl⟩
  have h2:¬ (16:Int)<((r.length+1:Nat):Int):=dF h2;refine⟨0,rfl,Nat.succ_pos _,c,rfl,?_⟩;refine cmo (jX c _) ?_;rintro e _ ⟨rfl,rfl⟩;refine biE (fun h3=>?_) fun h3=>?_
  ·have h3:¬ zZ c=3:=by
    have h1:(!decide ((zZ c:Int)=3))=true:=h3;simp at h1;omega
   refine brT ?_;exact⟨rb (by rw [hdef,Ul h3];simp),rfl⟩
  have h3:zZ c=3:=by
   have h1:(!decide ((zZ c:Int)=3))=false:=h3;simp at h1;omega
  refine cmo (zt8 (c::r) _) ?_;rintro e _ ⟨rfl,rfl⟩;refine biE (fun h4=>?_) fun h4=>?_
  ·have h4:zg5 (c::r)=true:=h4;exact⟨rb (by rw [hdef,h4];simp),rfl⟩
  ·exact⟨(),(cvE rfl rfl),⟨c,r,rfl,by omega,h3,h4⟩,rfl⟩
 rintro _ _ ⟨⟨c,r,rfl,h1,h3,h4⟩,rfl⟩;have hdef:zeU (c::r)=(r.all qw&&(!decide (c=114)||(decide (qP r=0)||decide (qP r<r.length)))):=by
  show (decide (r.length+1<=16)&&(decide (zZ c=3)&&(!zg5 (c::r)&&(r.all qw&&(!decide (c=114)||(decide (qP r=0)||decide (qP r<r.length)))))))=_;rw [Ux h1,Ux h3,h4];rfl
 rw [hdef];refine⟨Unit,fun _=>⟨[(0,zx (c::r)),(3,i64 (qP r:Nat))],[]⟩,fun _ X=>r.all qw=true/\w=X,?_,?_⟩
 ·refine⟨Nat,fun k=>⟨[(0,zx (c::r)),(3,i64 (qP (r.take k):Nat)),(4,i64 (k+1:Nat))],[]⟩,fun k X=>k<=r.length/\(∀ d∈r.take k,qw d=true)/\qP (r.take k)<=k/\w=X,fun k=>r.length-k,0,(cvE rfl rfl),⟨Gj _,by simp,Gh _,rfl⟩,?_⟩;rintro k _ ⟨hk,hw,hdk,rfl⟩;dsimp only at hk hw hdk ⊢;refine biE (fun hc=>?_) fun hc=>?_
  ·have hc:((k+1:Nat):Int)<((r.length+1:Nat):Int):=dT hc;have hl:k<r.length:=by omega
   have hat:(bs (c::r)).data.toList[k+1]?=some r[k]:=by
    show (c::r)[k+1]?=_;rw [Ju,gE hl]
   refine⟨k+1,rfl,(by show k+1<r.length+1;omega),r[k],hat,?_⟩;refine cmo (zko _ _) ?_;rintro e _ ⟨rfl,rfl⟩;refine biE (fun hi=>?_) fun hi=>?_
   ·have hi:(!qw r[k])=true:=hi;have hi:qw r[k]=false:=(by simpa using hi);have:r.all qw=false:=by
     rw [KO];exact⟨r[k],gM _,by rw [hi];simp⟩
    exact⟨rb (by rw [this];rfl),rfl⟩
   have hi:(!qw r[k])=false:=hi;have hi:qw r[k]=true:=by simpa using hi
   have hw':∀ d∈r.take (k+1),qw d=true:=by
    rw [tsg hl];intro d hd;rcases QW.1 hd with hd | hd
    ·exact hw d hd
    ·simp only [KC] at hd;rw [hd];exact hi
   have hds:qP (r.take (k+1))=qP (r.take k)+(if zbo r[k]=true then 1 else 0):=by
    unfold qP;rw [tsg hl,Kw,lap];congr 1;by_cases h:zbo r[k]=true
    ·rw [GC h,List.filter_cons_of_pos h];rfl
    ·rw [GB h,List.filter_cons_of_neg h];rfl
   refine⟨k+1,rfl,(by show k+1<r.length+1;omega),r[k],hat,?_⟩;refine cmo (jX _ _) ?_;rintro e _ ⟨rfl,rfl⟩;have hd:decide ((zZ r[k]:Int)=4)=zbo r[k]:=zcf (b:=4);refine biE (fun hg=>?_) fun hg=>?_
   ·have hg:zbo r[k]=true:=hd.symm.trans hg;rw [GC hg] at hds;refine⟨(qP (r.take (k+1)):Int),(zi (by omega)).trans (by omega),?_⟩;refine⟨((k+1+1:Nat):Int),(zi (by omega)).trans (by omega),?_⟩;exact⟨k+1,(cvE rfl rfl),⟨hl,hw',by omega,rfl⟩,zdc (by omega)⟩
   ·have hg:¬ zbo r[k]=true:=(by rw [Qk];exact hd.symm.trans hg);rw [GB hg] at hds;refine⟨((k+1+1:Nat):Int),(zi (by omega)).trans (by omega),?_⟩;exact⟨k+1,⟨.cons rfl (.cons (by rw [hds];rfl) (.cons rfl .nil)),rfl⟩,⟨hl,hw',by omega,rfl⟩,zdc (by omega)⟩
  ·have hc:¬ ((k+1:Nat):Int)<((r.length+1:Nat):Int):=dF hc;obtain rfl:k=r.length:=by omega
   rw [Qy] at hw;exact⟨(),⟨.cons rfl (.cons (by rw [Qy];rfl) .nil),rfl⟩,Ql.2 hw,rfl⟩
 rintro _ _ ⟨hall,rfl⟩;rw [hall,UD];have hdl:qP r<=r.length:=JL _ _;refine⟨0,rfl,Nat.succ_pos _,c,rfl,?_⟩;have cd:decide ((c.toNat:Int)=114)=decide (c=114):=by rw [QJ];exact jc (y:=114)
 refine biE (fun h=>?_) fun h=>?_
 ·have h:(!decide (c=114))=true:=by
   have h:(!decide ((c.toNat:Int)=114))=true:=h
   rwa [cd] at h
  refine brT ?_;exact⟨rb (by rw [h];rfl),rfl⟩
 have h:(!decide (c=114))=false:=by
  have h:(!decide ((c.toNat:Int)=114))=false:=h
  rwa [cd] at h
 rw [h,UA];refine biE (fun h5=>?_) fun h5=>?_
 ·have h5:qP r=0:=by have h5:(qP r:Int)=0:=dT h5;omega
  exact⟨rb (by rw [Ux h5];rfl),rfl⟩
 have h5:¬ qP r=0:=by have h5:¬ (qP r:Int)=0:=dF h5;omega
 refine⟨(r.length:Nat),(zi (by show -9223372036854775808<=((r.length+1:Nat):Int)-1/\((r.length+1:Nat):Int)-1<=9223372036854775807;omega)).trans (by show ((r.length+1:Nat):Int)-1=_;omega),?_⟩;exact⟨rb (by rw [Ul h5,UA,QJ];omega),rfl⟩
theorem zsm (p:OA) (cap:Nat) (l:List (List UInt8)) (s:List UInt8) (w:Wd) (hl:SlR zlw w p l) (hn:l.length<=140737488351232) :
  Calls PG 242 #[.slice p l.length cap,zx s] w fun e w'=>∃ n:Int,e = .returned (i64 n)/\decide (0<=n)=l.any (fun q=>decide (q=s))/\w=w':=by
 refine zI 19 [.slice p l.length cap,zx s] Tryz.func242 ?_;refine⟨Nat,fun k=>⟨[(0,.slice p l.length cap),(1,zx s),(7,i64 l.length),(8,i64 (k:Nat))],[]⟩,fun k X=>k<=l.length/\(∀ q∈l.take k,¬ q=s)/\w=X,fun k=>l.length-k,0,(cvE rfl rfl),⟨Gj _,by simp,rfl⟩,?_⟩;rintro k _ ⟨hk,hno,rfl⟩;dsimp only at hk hno ⊢;refine biE (fun hc=>?_) fun hc=>?_
 ·have hc:(k:Int)<(l.length:Int):=dT hc;have hkl:k<l.length:=by omega
  obtain⟨b,o,rfl,hb,hat⟩:=hl.at hkl;refine⟨k,rfl,hkl,?_⟩;refine⟨_,zc (hat k hkl) (i:=0) rfl,?_⟩;refine⟨_,fun w=>zF _ _ s l[k] w,?_⟩;refine biE (fun h=>?_) fun h=>?_
  ·have h:s=l[k]:=dT h;refine⟨k,rfl,?_,rfl⟩;rw [Ux (by omega)];symm;rw [Qm];exact⟨l[k],gM _,Ux h.symm⟩
  ·have h:¬ s=l[k]:=dF h;refine⟨(k+1:Nat),(zi (by omega)).trans (by omega),?_⟩;refine⟨k+1,(cvE rfl rfl),⟨hkl,?_,rfl⟩,zdc (by omega)⟩;rw [tsg hkl];intro q hq;rcases QW.1 hq with hq | hq
   ·exact hno q hq
   ·simp only [KC] at hq;rw [hq];exact fun e=>h e.symm
 ·have hc:¬ (k:Int)<(l.length:Int):=dF hc;obtain rfl:k=l.length:=by omega
  rw [Qy] at hno;refine⟨-1,rfl,?_,rfl⟩;symm;show _=false;rw [KQ];exact fun q hq=>by simpa using hno q hq
theorem zl0 (p:OA) (cap:Nat) (l:List (List UInt8)) (s:List UInt8) (w:Wd) (hl:SlR zlw w p l) (hn:l.length<=140737488351232) :
  Calls PG 223 #[.slice p l.length cap,zx s] w fun e w'=>e = .returned (.bool (l.any fun q=>decide (q=s)))/\w=w':=by
 refine zI 9 [.slice p l.length cap,zx s] Tryz.func223 ?_;refine cmo (zsm p cap l s w hl hn) ?_;rintro e _ ⟨n,rfl,h,rfl⟩;exact⟨rb h,rfl⟩
def GlobC (w : Wd) : Prop := zq w ⟨8, 0, none⟩ (zeS.map u8)
theorem GlobC.below {w w2 : Wd} (h : GlobC w) (hb : Below w.heap.size w w2) : GlobC w2 := zz hb h
def spC (x : InsD) (locs after : Nat) : List Value := [u8 x.op, u8 x.dst, u8 x.loc, .bool x.ar, u8 x.an, .bool x.br, u8 x.bn, u8 x.fn, u8 x.mode, u8 x.skip, i64 locs, i64 after]
theorem u8d (x k : UInt8) : decide ((x.toNat : Int) = (k.toNat : Int)) = decide (x = k) := by rw [QJ]; exact jc
theorem zsO (a b : UInt8) : IntKind.u8.wrap ((BitVec.ofInt IntKind.u8.bits (a.toNat : Int) &&& BitVec.ofInt IntKind.u8.bits (b.toNat : Int)).toNat : Int) = ((a &&& b).toNat : Int) := by
  have h : ∀ x : UInt8, BitVec.ofInt 8 (x.toNat : Int) = x.toBitVec := fun x => by
    apply BitVec.eq_of_toNat_eq
    rw [Kt]
    have := x.toNat_lt
    show ((x.toNat : Int) % (2 ^ 8 : Nat)).toNat = x.toNat
    omega
  show IntKind.u8.wrap ((BitVec.ofInt 8 (a.toNat : Int) &&& BitVec.ofInt 8 (b.toNat : Int)).toNat : Int) = _
  rw [h, h]
  have e : (a.toBitVec &&& b.toBitVec).toNat = (a &&& b).toNat := rfl
  rw [e]
  have := (a &&& b).toNat_lt
  exact zga (by omega)
theorem ze6 {g locs after : Nat} {x : InsD} {w : Wd} (bit : UInt8) (h : zq w ⟨g, 0, none⟩ (spC x locs after)) (hop : x.op.toNat ≤ 8) (hG : GlobC w) :
    Calls PG 248 #[.pointer (some ⟨g, 0, none⟩), u8 bit] w fun e w' => e = .returned (.bool (jw x.op bit)) ∧ w = w' := by
  refine qZ (S := sg 15) (za9 _) (args := [.pointer (some ⟨g, 0, none⟩), u8 bit]) Tryz.func248 rfl rfl (JS rfl) rfl ?_
  refine ⟨_, zc h (i := 0) rfl, ?_⟩
  refine ⟨x.op.toNat, rfl, (by show x.op.toNat < 9; omega), ?_⟩
  have hn : (zeS.map u8)[x.op.toNat]? = some (u8 (zeS.getD x.op.toNat 0)) := by
    have hl : x.op.toNat < zeS.length := by show _ < 9; omega
    rw [KW, Jt hl, List.getD_eq_getElem?_getD, Jt hl]; rfl
  refine ⟨u8 (zeS.getD x.op.toNat 0), by rw [Gi]; exact zc hG hn, ?_⟩
  refine ⟨((zeS.getD x.op.toNat 0 &&& bit).toNat : Int), zsO _ _, ?_⟩
  exact ⟨rb (by unfold jw; rw [← u8d]; rfl), rfl⟩
theorem zhw (r : Bool) (n : UInt8) (w : Wd) : Calls PG 250 #[.agg #[.bool r, u8 n]] w fun e w' => e = .returned (.bool (zlX r n)) ∧ Below w.heap.size w w' := by
  refine qZ (S := sg 11) (za9 _) (args := [.agg #[.bool r, u8 n]]) Tryz.func250 rfl rfl (JS rfl) rfl ?_
  have hb0 : Below w.heap.size w (w.alloc (.cells #[.bool r, u8 n] 94)) := (Gm _ _).alloc (Gh _) _
  have c0 := za (zt w (.cells #[.bool r, u8 n] 94))
  refine ⟨_, zc c0 (i := 0) rfl, ?_⟩
  cases r with
  | false =>
    refine brT ?_
    exact ⟨rfl, hb0⟩
  | true =>
    refine brF ?_
    refine ⟨_, zc c0 (i := 1) rfl, ?_⟩
    refine ⟨rb ?_, hb0⟩
    show decide ((n.toNat : Int) < 8) = decide (n.toNat < 8)
    rw [QJ]; omega
theorem zkb {g locs after : Nat} {x : InsD} {w : Wd} (h : zq w ⟨g, 0, none⟩ (spC x locs after)) :
    Calls PG 251 #[.pointer (some ⟨g, 0, none⟩)] w fun e w' => e = .returned (.bool (zeV x)) ∧ w = w' := by
  refine qZ (S := sg 64) (za9 _) (args := [.pointer (some ⟨g, 0, none⟩)]) Tryz.func251 rfl rfl (JS rfl) rfl ?_
  refine ⟨_, zc h (i := 0) rfl, ?_⟩
  refine Gs (fun h1 => ?_) (fun h1 => ?_)
  · have h1 : x.op = 1 := Qe ((u8d x.op 1).symm.trans h1)
    have e : zeV x = (decide (x.mode = 0) || decide (x.mode = 1)) := by unfold zeV; rw [GC h1]
    rw [e, ← u8d, ← u8d]
    refine ⟨_, zc h (i := 8) rfl, ?_⟩
    refine Gs (fun h2 => ?_) (fun h2 => ?_)
    · exact ⟨rb (by have h2 : decide ((x.mode.toNat : Int) = ((0 : UInt8).toNat : Int)) = true := h2
                    rw [h2]; rfl), rfl⟩
    · refine ⟨_, zc h (i := 8) rfl, ?_⟩
      exact ⟨rb (by have h2 : decide ((x.mode.toNat : Int) = ((0 : UInt8).toNat : Int)) = false := h2
                    rw [h2]; rfl), rfl⟩
  have h1 : ¬ x.op = 1 := KK ((u8d x.op 1).symm.trans h1)
  refine Gs (fun h2 => ?_) (fun h2 => ?_)
  · have h2 : x.op = 2 := Qe ((u8d x.op 2).symm.trans h2)
    have e : zeV x = (decide (x.mode = 0) || decide (x.mode = 2)) := by unfold zeV; rw [GB h1, GC h2]
    rw [e, ← u8d, ← u8d]
    refine ⟨_, zc h (i := 8) rfl, ?_⟩
    refine Gs (fun h2 => ?_) (fun h2 => ?_)
    · exact ⟨rb (by have h2 : decide ((x.mode.toNat : Int) = ((0 : UInt8).toNat : Int)) = true := h2
                    rw [h2]; rfl), rfl⟩
    · refine ⟨_, zc h (i := 8) rfl, ?_⟩
      exact ⟨rb (by have h2 : decide ((x.mode.toNat : Int) = ((0 : UInt8).toNat : Int)) = false := h2
                    rw [h2]; rfl), rfl⟩
  have h2 : ¬ x.op = 2 := KK ((u8d x.op 2).symm.trans h2)
  refine Gs (fun h3 => ?_) (fun h3 => ?_)
  · have h3 : x.op = 7 := Qe ((u8d x.op 7).symm.trans h3)
    have e : zeV x = (decide (x.mode = 3) || (decide (x.mode = 4) || decide (x.mode = 5))) := by unfold zeV; rw [GB h1, GB h2, GC h3]
    rw [e, ← u8d, ← u8d, ← u8d]
    refine ⟨_, zc h (i := 8) rfl, ?_⟩
    refine Gs (fun h4 => ?_) (fun h4 => ?_)
    · refine brT ?_
      exact ⟨rb (by have h4 : decide ((x.mode.toNat : Int) = ((3 : UInt8).toNat : Int)) = true := h4
                    rw [h4]; rfl), rfl⟩
    have h4 : decide ((x.mode.toNat : Int) = ((3 : UInt8).toNat : Int)) = false := h4
    refine ⟨_, zc h (i := 8) rfl, ?_⟩
    refine Gs (fun h5 => ?_) (fun h5 => ?_)
    · exact ⟨rb (by have h5 : decide ((x.mode.toNat : Int) = ((4 : UInt8).toNat : Int)) = true := h5
                    rw [h4, h5]; rfl), rfl⟩
    have h5 : decide ((x.mode.toNat : Int) = ((4 : UInt8).toNat : Int)) = false := h5
    refine ⟨_, zc h (i := 8) rfl, ?_⟩
    exact ⟨rb (by rw [h4, h5]; rfl), rfl⟩
  have h3 : ¬ x.op = 7 := KK ((u8d x.op 7).symm.trans h3)
  exact ⟨rb (by unfold zeV; rw [GB h1, GB h2, GB h3]), rfl⟩
theorem znT {g locs after : Nat} {x : InsD} {w : Wd} (h : zq w ⟨g, 0, none⟩ (spC x locs after)) :
    Calls PG 252 #[.pointer (some ⟨g, 0, none⟩)] w fun e w' => e = .returned (.bool (fnL x)) ∧ w = w' := by
  refine qZ (S := sg 56) (za9 _) (args := [.pointer (some ⟨g, 0, none⟩)]) Tryz.func252 rfl rfl (JS rfl) rfl ?_
  refine ⟨_, zc h (i := 0) rfl, ?_⟩
  refine Gs (fun h1 => ?_) (fun h1 => ?_)
  · have h1 : x.op = 3 := Qe ((u8d x.op 3).symm.trans h1)
    have e : fnL x = (decide (x.fn = 1) || (decide (x.fn = 2) || decide (x.fn = 3))) := by unfold fnL; rw [GC h1]
    rw [e, ← u8d, ← u8d, ← u8d]
    refine ⟨_, zc h (i := 7) rfl, ?_⟩
    refine Gs (fun h4 => ?_) (fun h4 => ?_)
    · refine brT ?_
      exact ⟨rb (by have h4 : decide ((x.fn.toNat : Int) = ((1 : UInt8).toNat : Int)) = true := h4
                    rw [h4]; rfl), rfl⟩
    have h4 : decide ((x.fn.toNat : Int) = ((1 : UInt8).toNat : Int)) = false := h4
    refine ⟨_, zc h (i := 7) rfl, ?_⟩
    refine Gs (fun h5 => ?_) (fun h5 => ?_)
    · exact ⟨rb (by have h5 : decide ((x.fn.toNat : Int) = ((2 : UInt8).toNat : Int)) = true := h5
                    rw [h4, h5]; rfl), rfl⟩
    have h5 : decide ((x.fn.toNat : Int) = ((2 : UInt8).toNat : Int)) = false := h5
    refine ⟨_, zc h (i := 7) rfl, ?_⟩
    exact ⟨rb (by rw [h4, h5]; rfl), rfl⟩
  have h1 : ¬ x.op = 3 := KK ((u8d x.op 3).symm.trans h1)
  refine Gs (fun h2 => ?_) (fun h2 => ?_)
  · have h2 : x.op = 8 := Qe ((u8d x.op 8).symm.trans h2)
    have e : fnL x = (decide (x.fn = 4) || (decide (x.fn = 5) || decide (x.fn = 6))) := by unfold fnL; rw [GB h1, GC h2]
    rw [e, ← u8d, ← u8d, ← u8d]
    refine ⟨_, zc h (i := 7) rfl, ?_⟩
    refine Gs (fun h4 => ?_) (fun h4 => ?_)
    · refine brT ?_
      exact ⟨rb (by have h4 : decide ((x.fn.toNat : Int) = ((4 : UInt8).toNat : Int)) = true := h4
                    rw [h4]; rfl), rfl⟩
    have h4 : decide ((x.fn.toNat : Int) = ((4 : UInt8).toNat : Int)) = false := h4
    refine ⟨_, zc h (i := 7) rfl, ?_⟩
    refine Gs (fun h5 => ?_) (fun h5 => ?_)
    · exact ⟨rb (by have h5 : decide ((x.fn.toNat : Int) = ((5 : UInt8).toNat : Int)) = true := h5
                    rw [h4, h5]; rfl), rfl⟩
    have h5 : decide ((x.fn.toNat : Int) = ((5 : UInt8).toNat : Int)) = false := h5
    refine ⟨_, zc h (i := 7) rfl, ?_⟩
    exact ⟨rb (by rw [h4, h5]; rfl), rfl⟩
  have h2 : ¬ x.op = 8 := KK ((u8d x.op 8).symm.trans h2)
  exact ⟨rb (by unfold fnL; rw [GB h1, GB h2]), rfl⟩
set_option maxRecDepth 4000
def zqF:InsD:=⟨0,0,0,false,0,false,0,0,0,0⟩
def nd0 (x:InsD):InsD:={ zqF with op:=x.op }
def nd1 (x:InsD):InsD:={ nd0 x with dst:=if jw x.op 1 then x.dst else 0 }
def nd2 (x:InsD):InsD:={ nd1 x with loc:=if jw x.op 2 then x.loc else 0 }
def nd3 (x:InsD):InsD:={ nd2 x with ar:=jw x.op 4&&x.ar,an:=if jw x.op 4 then x.an else 0 }
def nd4 (x:InsD):InsD:={ nd3 x with br:=jw x.op 8&&x.br,bn:=if jw x.op 8 then x.bn else 0 }
def nd5 (x:InsD):InsD:={ nd4 x with fn:=if jw x.op 16 then x.fn else 0 }
def nd6 (x:InsD):InsD:={ nd5 x with mode:=if jw x.op 32 then x.mode else 0 }
def nd7 (x:InsD):InsD:={ nd6 x with skip:=if jw x.op 64 then x.skip else 0 }
theorem zpl {g locs after:Nat} {x:InsD} {w:Wd} (h:zq w ⟨g,0,none⟩ (spC x locs after)) (hg:g<w.heap.size) (hop:x.op.toNat<=8) (hG:GlobC w) :
  CB 245 #[At0 g] w (.agg (qz.enc (zgj x)).toArray):=by
 refine zU 67 [At0 g] (.s .p (.c .p (.c .p (.c .p (.c .p (.c .p (.c .p (.c .p (.c .p .p))))))))) Tryz.func245 ?_;obtain⟨r,hr⟩:=nm (w.heap.size);obtain⟨W0,hW0⟩:=nm (w.alloc (.cells (qz.enc zqF).toArray 96));have hb0:Bw w W0:=by rw [hW0];exact (zba _ _)
 have f0:W0.heap[r]?=some (.cells (qz.enc zqF).toArray 96 (0,0)):=by rw [hW0,hr];exact zt w _
 have s0:W0.heap.size=r+1:=by rw [hW0,wz,hr]
 let Good:InsD->Wd->Prop:=fun y X=>Bw w X/\X.heap[r]?=some (.cells (qz.enc zqF).toArray 96 (0,0))/\X.heap[r+1]?=some (.cells (qz.enc y).toArray 96 (0,0))
 have good:∀ y X,Good y X->zq X ⟨g,0,none⟩ (spC x locs after)/\GlobC X/\g<X.heap.size:=fun y X ⟨hb,_,_⟩=>⟨ja hb hg h,hG.below hb,by have:=hb.size;omega⟩;have turn:∀ y z X Y,Good y X->X.grownBy Y (some (r+1))->Y.heap[r+1]?=some (.cells (qz.enc z).toArray 96 (0,0))->Good z Y:=fun y z X Y ⟨hb,h1,h2⟩ hg' h3 =>
  ⟨hb.grown hg' hb.size (fun k e=>by simp only [Qb] at e;omega),(hg'.block _ (hlt h1) (fun e=>by simp only [Qb] at e;omega)).trans h1,h3⟩
 have start:∀ Y,Bw W0 Y->Y.heap[W0.heap.size]?=some (.cells (Value.agg (qz.enc (nd0 x)).toArray).cells 96 (0,0))->Good (nd0 x) Y:=fun Y hY fY =>
  ⟨(zst hb0 hY),zb hY f0,by rw [<- s0];exact fY⟩
 have h0:zq W0 ⟨g,0,none⟩ (spC x locs after):=ja hb0 hg h;have p2:some (Value.pointer (some ⟨w.heap.size,0,none⟩))=some (At0 r):=by rw [hr]
 have p3:some (Value.pointer (some ⟨W0.heap.size,0,none⟩))=some (At0 (r+1)):=by rw [s0]
 refine⟨Unit,fun _=>⟨[(0,At0 g),(2,At0 r),(3,At0 (r+1))],[]⟩,fun _ X=>Good (nd0 x) X,?_,?_⟩
 ·subst hW0;exact⟨_,zc h0 (i:=0) rfl,qz.enc (nd0 x),rfl,zl (v := .agg (qz.enc (nd0 x)).toArray) k96 rfl rfl rfl fun Y hbY fY sY=>⟨(),⟨.cons rfl (.cons p2 (.cons p3 .nil)),rfl⟩,start Y hbY fY⟩⟩
 clear start h0 f0 hb0 p2 p3 s0;rintro _ Y hY;refine⟨Unit,fun _=>⟨[(0,At0 g),(2,At0 r),(3,At0 (r+1))],[]⟩,fun _ X=>Good (nd1 x) X,?_,?_⟩
 ·obtain⟨hc,hGY,hgY⟩:=good _ Y hY;refine cmo (ze6 1 hc hop hGY) ?_;rintro e _ ⟨rfl,rfl⟩;refine biE (fun hh=>?_) fun hh=>?_
  ·have hh:jw x.op 1=true:=hh;have e:nd1 x={ nd0 x with dst:=x.dst }:=by unfold nd1;rw [GC hh]
   exact⟨_,zc hc (i:=1) rfl,zaA k5 rfl (hY.2.2) (o:=1) (by show 1<10;omega) (v:=u8 x.dst) rfl rfl fun Z fZ gZ sZ=>⟨(),(cvE rfl rfl),turn _ _ Y Z hY gZ (by rw [e];exact fZ)⟩⟩
  ·have hh:jw x.op 1=false:=hh;have e:nd1 x=nd0 x:=by unfold nd1;rw [GB (by rw [hh];decide)];rfl
   exact⟨(),(cvE rfl rfl),by rw [e];exact hY⟩
 clear hY Y;rintro _ Y hY;refine⟨Unit,fun _=>⟨[(0,At0 g),(2,At0 r),(3,At0 (r+1))],[]⟩,fun _ X=>Good (nd2 x) X,?_,?_⟩
 ·obtain⟨hc,hGY,hgY⟩:=good _ Y hY;refine cmo (ze6 2 hc hop hGY) ?_;rintro e _ ⟨rfl,rfl⟩;refine biE (fun hh=>?_) fun hh=>?_
  ·have hh:jw x.op 2=true:=hh;have e:nd2 x={ nd1 x with loc:=x.loc }:=by unfold nd2;rw [GC hh]
   exact⟨_,zc hc (i:=2) rfl,zaA k5 rfl (hY.2.2) (o:=2) (by show 2<10;omega) (v:=u8 x.loc) rfl rfl fun Z fZ gZ sZ=>⟨(),(cvE rfl rfl),turn _ _ Y Z hY gZ (by rw [e];exact fZ)⟩⟩
  ·have hh:jw x.op 2=false:=hh;have e:nd2 x=nd1 x:=by unfold nd2;rw [GB (by rw [hh];decide)];rfl
   exact⟨(),(cvE rfl rfl),by rw [e];exact hY⟩
 clear hY Y;rintro _ Y hY;refine⟨Unit,fun _=>⟨[(0,At0 g),(2,At0 r),(3,At0 (r+1))],[]⟩,fun _ X=>Good (nd3 x) X,?_,?_⟩
 ·obtain⟨hc,hGY,hgY⟩:=good _ Y hY;refine cmo (ze6 4 hc hop hGY) ?_;rintro e _ ⟨rfl,rfl⟩;refine biE (fun hh=>?_) fun hh=>?_
  ·have hh:jw x.op 4=true:=hh;have e:nd3 x={ nd2 x with ar:=x.ar,an:=x.an }:=by unfold nd3;rw [hh,UD,GC rfl]
   exact⟨[.bool x.ar,u8 x.an],rfl,zN (n:=3) (m:=2) hc,hgY,jt k94 hY.2.2 (o:=3) (v := .agg #[.bool x.ar,u8 x.an]) rfl (by show 3+2<=10;omega) rfl fun Z fZ gZ sZ=>⟨(),(cvE rfl rfl),turn _ _ Y Z hY gZ (by rw [e];exact fZ)⟩⟩
  ·have hh:jw x.op 4=false:=hh;have e:nd3 x=nd2 x:=by unfold nd3;rw [hh,Un,GB (by decide)];rfl
   exact⟨(),(cvE rfl rfl),by rw [e];exact hY⟩
 clear hY Y;rintro _ Y hY;refine⟨Unit,fun _=>⟨[(0,At0 g),(2,At0 r),(3,At0 (r+1))],[]⟩,fun _ X=>Good (nd4 x) X,?_,?_⟩
 ·obtain⟨hc,hGY,hgY⟩:=good _ Y hY;refine cmo (ze6 8 hc hop hGY) ?_;rintro e _ ⟨rfl,rfl⟩;refine biE (fun hh=>?_) fun hh=>?_
  ·have hh:jw x.op 8=true:=hh;have e:nd4 x={ nd3 x with br:=x.br,bn:=x.bn }:=by unfold nd4;rw [hh,UD,GC rfl]
   exact⟨[.bool x.br,u8 x.bn],rfl,zN (n:=5) (m:=2) hc,hgY,jt k94 hY.2.2 (o:=5) (v := .agg #[.bool x.br,u8 x.bn]) rfl (by show 5+2<=10;omega) rfl fun Z fZ gZ sZ=>⟨(),(cvE rfl rfl),turn _ _ Y Z hY gZ (by rw [e];exact fZ)⟩⟩
  ·have hh:jw x.op 8=false:=hh;have e:nd4 x=nd3 x:=by unfold nd4;rw [hh,Un,GB (by decide)];rfl
   exact⟨(),(cvE rfl rfl),by rw [e];exact hY⟩
 clear hY Y;rintro _ Y hY;refine⟨Unit,fun _=>⟨[(0,At0 g),(2,At0 r),(3,At0 (r+1))],[]⟩,fun _ X=>Good (nd5 x) X,?_,?_⟩
 ·obtain⟨hc,hGY,hgY⟩:=good _ Y hY;refine cmo (ze6 16 hc hop hGY) ?_;rintro e _ ⟨rfl,rfl⟩;refine biE (fun hh=>?_) fun hh=>?_
  ·have hh:jw x.op 16=true:=hh;have e:nd5 x={ nd4 x with fn:=x.fn }:=by unfold nd5;rw [GC hh]
   exact⟨_,zc hc (i:=7) rfl,zaA k5 rfl (hY.2.2) (o:=7) (by show 7<10;omega) (v:=u8 x.fn) rfl rfl fun Z fZ gZ sZ=>⟨(),(cvE rfl rfl),turn _ _ Y Z hY gZ (by rw [e];exact fZ)⟩⟩
  ·have hh:jw x.op 16=false:=hh;have e:nd5 x=nd4 x:=by unfold nd5;rw [GB (by rw [hh];decide)];rfl
   exact⟨(),(cvE rfl rfl),by rw [e];exact hY⟩
 clear hY Y;rintro _ Y hY;refine⟨Unit,fun _=>⟨[(0,At0 g),(2,At0 r),(3,At0 (r+1))],[]⟩,fun _ X=>Good (nd6 x) X,?_,?_⟩
 ·obtain⟨hc,hGY,hgY⟩:=good _ Y hY;refine cmo (ze6 32 hc hop hGY) ?_;rintro e _ ⟨rfl,rfl⟩;refine biE (fun hh=>?_) fun hh=>?_
  ·have hh:jw x.op 32=true:=hh;have e:nd6 x={ nd5 x with mode:=x.mode }:=by unfold nd6;rw [GC hh]
   exact⟨_,zc hc (i:=8) rfl,zaA k5 rfl (hY.2.2) (o:=8) (by show 8<10;omega) (v:=u8 x.mode) rfl rfl fun Z fZ gZ sZ=>⟨(),(cvE rfl rfl),turn _ _ Y Z hY gZ (by rw [e];exact fZ)⟩⟩
  ·have hh:jw x.op 32=false:=hh;have e:nd6 x=nd5 x:=by unfold nd6;rw [GB (by rw [hh];decide)];rfl
   exact⟨(),(cvE rfl rfl),by rw [e];exact hY⟩
 clear hY Y;rintro _ Y hY;refine⟨Unit,fun _=>⟨[(0,At0 g),(2,At0 r),(3,At0 (r+1))],[]⟩,fun _ X=>Good (nd7 x) X,?_,?_⟩
 ·obtain⟨hc,hGY,hgY⟩:=good _ Y hY;refine cmo (ze6 64 hc hop hGY) ?_;rintro e _ ⟨rfl,rfl⟩;refine biE (fun hh=>?_) fun hh=>?_
  ·have hh:jw x.op 64=true:=hh;have e:nd7 x={ nd6 x with skip:=x.skip }:=by unfold nd7;rw [GC hh]
   exact⟨_,zc hc (i:=9) rfl,zaA k5 rfl (hY.2.2) (o:=9) (by show 9<10;omega) (v:=u8 x.skip) rfl rfl fun Z fZ gZ sZ=>⟨(),(cvE rfl rfl),turn _ _ Y Z hY gZ (by rw [e];exact fZ)⟩⟩
  ·have hh:jw x.op 64=false:=hh;have e:nd7 x=nd6 x:=by unfold nd7;rw [GB (by rw [hh];decide)];rfl
   exact⟨(),(cvE rfl rfl),by rw [e];exact hY⟩
 clear hY Y;rintro _ Y hY;exact⟨_,rfl,za hY.2.2,hlt hY.2.2,zr (v := .agg (qz.enc (nd7 x)).toArray) k96 hY.2.1 rfl rfl rfl ⟨_,rfl,za (zm hY.2.1),rfl,zk hY.1 (by omega) _⟩⟩
end Go.Proofs.YtnadlhpkpnfmbaaGreatDoor
namespace Go.Vc
open Go.RowKit
def qE (cs:List Value) (o n:Nat):List Value:=(cs.drop o).take n
theorem zfL (cs:List Value) (o n m:Nat):qE cs o (n+m)=qE cs o n++qE cs (o+n) m:=by
 unfold qE;rw [List.take_add,Up]
theorem zdS {cs:List Value} {o n:Nat} (h:o+n<=cs.length):(qE cs o n).length=n:=by
 unfold qE;rw [Qw,Qv];omega
def vOf (g:Bool) (a:List Value):Value:=match g with | true => .agg a.toArray | false=>a.headD undef
structure TyEq (P:Program) (T:TypeId) (g:Bool) (n k:Nat) (G:List Value->Prop):Prop where
 ag:∀ w,(isAgg T).run P w = .ok g w
 info:∃ i,P.info? T=some i
 cl:P.cellsOf T=n
 one:g=false->n=1
 eq:∀ d w a b,a.length=n->b.length=n->G a->G b->∃ r:Bool,(Op.equalIn (d+k) T (vOf g a) (vOf g b)).run P w = .ok r w/\(r=true↔a=b)
section
variable {P:Program}
theorem TyEq.up {T:TypeId} {g:Bool} {n k:Nat} {G:List Value->Prop} (h:TyEq P T g n k G) (m:Nat):TyEq P T g n (m+k) G :=
 ⟨h.ag,h.info,h.cl,h.one,fun d w a b h1 h2 h3 h4=>by have:=h.eq (d+m) w a b h1 h2 h3 h4;rwa [UL] at this⟩
theorem TyEq.part {T:TypeId} {g:Bool} {n k:Nat} {G:List Value->Prop} (h:TyEq P T g n k G) (xs:Array Value) (o:Nat) (hs:o+n<=xs.size) (w:Wd):(Go.part T xs o).run P w = .ok (vOf g (qE xs.toList o n)) w:=by
 obtain⟨i,hi⟩:=h.info;have hsz:=run_sizeOf w hi;rw [h.cl] at hsz;simp only [Go.part,Gd,h.ag,Qc]
 cases g with
 | true =>
  simp only [GA,Gd,hsz,Qc,Ge,vOf];congr 2;apply Qg.1;simp [qE,JT,List.extract_eq_take_drop]
 | false =>
  have h1:=h.one rfl;subst h1;have ho:o<xs.size:=by omega
  simp only [Ku,Gx,Jm ho,Ge,vOf];congr 1;unfold qE;rw [Jo (by simpa using ho)];simp
inductive Tile (P:Program) (k:Nat):List Field->Nat->Nat->(List Value->Prop)->Prop
 | nil {s:Nat}:Tile P k [] s s (fun _=>True)
 | cons {f : Field} {fs : List Field} {s e n : Nat} {g : Bool} {G G' : List Value → Prop} (hn : f.name ≠ "_") (ho : f.offset = s) (ht : TyEq P f.type g n k G) (hr : Tile P k fs (s + n) e G') : Tile P k (f :: fs) s e (fun cs => G (cs.take n) ∧ G' (cs.drop n))
theorem Tile.le {k:Nat} {fs:List Field} {s e:Nat} {G:List Value->Prop} (h:Tile P k fs s e G):s<=e:=by
 induction h with
 | nil=>exact Gh _
 | cons _ _ _ _ ih=>omega
theorem Tile.eq {k:Nat} {fs:List Field} {s e:Nat} {G:List Value->Prop} (h:Tile P k fs s e G):∀ (d:Nat) (xs ys:Array Value) (w:Wd),e<=xs.size->e<=ys.size->G (qE xs.toList s (e-s))->G (qE ys.toList s (e-s)) ->
  ∃ r:Bool,(Op.eqFields (d+k) xs ys fs).run P w = .ok r w/\(r=true↔qE xs.toList s (e-s)=qE ys.toList s (e-s)):=by
 induction h with
 | nil=>intro d xs ys w _ _ _ _;exact⟨true,rfl,by simp [qE]⟩
 | @cons f fs s e n g G G' hn ho ht hr ih =>
  intro d xs ys w hx hy hgx hgy;have hle:=hr.le;have e1:e-s=n+(e-(s+n)):=by omega
  rw [e1,zfL] at hgx hgy;rw [e1,zfL,zfL];have lx:(qE xs.toList s n).length=n:=zdS (by simp;omega);have ly:(qE ys.toList s n).length=n:=zdS (by simp;omega);obtain⟨gx1,gx2⟩:=hgx;obtain⟨gy1,gy2⟩:=hgy;rw [Jg (by omega),JE (by omega)] at gx1 gy1;rw [List.drop_append_of_le_length (by omega),JA (by omega),QY] at gx2 gy2;obtain⟨r1,h1,h2⟩:=ht.eq d w _ _ lx ly gx1 gy1;obtain⟨r2,h3,h4⟩:=ih d xs ys w hx hy gx2 gy2;simp only [Op.eqFields,hn,ne_eq,not_false_eq_true,GA,Gd,ho,ht.part xs s (by omega) w,ht.part ys s (by omega) w,Qc,h1];have hap:(qE xs.toList s n++qE xs.toList (s+n) (e-(s+n))=qE ys.toList s n++qE ys.toList (s+n) (e-(s+n)))↔(qE xs.toList s n=qE ys.toList s n/\qE xs.toList (s+n) (e-(s+n))=qE ys.toList (s+n) (e-(s+n))) :=
   ⟨fun h=>List.append_inj h (by rw [lx,ly]),fun h=>by rw [h.1,h.2]⟩
  rw [hap,<- h2,<- h4]
  cases r1 with
  | true=>exact⟨r2,by simpa using h3,by simp⟩
  | false=>exact⟨false,by simp,by simp⟩
theorem TyEq.struct {T:TypeId} {k n:Nat} {G:List Value->Prop} (hu:P.underlying T=some (.struct (P.fieldsOf T))) (hp:P.stoodInHeld T=false) (hag:∀ w,(isAgg T).run P w = .ok true w) (hi:∃ i,P.info? T=some i) (hc:P.cellsOf T=n)
  (ht:Tile P k (P.fieldsOf T).toList 0 n G):TyEq P T true n (k+1) G :=
 ⟨hag,hi,hc,fun h=>(by cases h),fun d w a b ha hb ga gb=>by
  have e:∀ l:List Value,l.length=n->qE l.toArray.toList 0 (n-0)=l:=fun l hl=>by
   unfold qE;rw [Ur,Ga];exact JE (by show l.length<=n;omega)
  obtain⟨r,h1,h2⟩:=ht.eq d a.toArray b.toArray w (by simp;omega) (by simp;omega) (by rw [e a ha];exact ga) (by rw [e b hb];exact gb);rw [e a ha,e b hb] at h2;refine⟨r,?_,h2⟩;have:=run_equalIn_struct (P:=P) w (d+k) T a.toArray b.toArray hu hp;rw [<- UL];exact this.trans h1⟩
theorem zn7 {n m:Nat} (hn:0<n) {a b:List Value} (ha:a.length=m*n) (hb:b.length=m*n) (h:∀ i,i<m->qE a (i*n) n=qE b (i*n) n):a=b:=by
 apply KS;intro j;by_cases hj:j<m*n
 ·have hd:j/n<m:=Nat.div_lt_of_lt_mul (by rw [UY];exact hj);have h1:=Gw (fun l=>l[j%n]?) (h _ hd);simp only [qE,Kz,GC (Gr j hn),Ky] at h1;rw [UY,Ud] at h1;exact h1
 ·rw [JJ (by omega),JJ (by omega)]
theorem TyEq.array {T e:TypeId} {g:Bool} {n k m:Nat} {G:List Value->Prop} (hn:0<n) (hu:P.underlying T=some (.array m e)) (hag:∀ w,(isAgg T).run P w = .ok true w) (hi:∃ i,P.info? T=some i) (hc:P.cellsOf T=m*n) (ht:TyEq P e g n k G) :
  TyEq P T true (m*n) (k+1) (fun cs=>∀ i,i<m->G (qE cs (i*n) n)) :=
 ⟨hag,hi,hc,fun h=>(by cases h),fun d w a b ha hb ga gb=>by
  obtain⟨ie,hie⟩:=ht.info;have key:∀ is:List Nat,(∀ i∈is,i<m)->∃ r:Bool,(Op.eqItems (d+k) e n a.toArray b.toArray is).run P w = .ok r w/\(r=true↔∀ i∈is,qE a (i*n) n=qE b (i*n) n):=by
   intro is
   induction is with
   | nil=>intro _;exact⟨true,rfl,by simp⟩
   | cons i is ih =>
    intro him;have hi:=him i KB;have hle:i*n+n<=m*n:=(by rw [<- Nat.succ_mul];exact Nat.mul_le_mul_right _ hi);obtain⟨r2,h3,h4⟩:=ih fun j hj=>him j (JW _ hj);obtain⟨r1,h1,h2⟩:=ht.eq d w (qE a (i*n) n) (qE b (i*n) n) (zdS (by omega)) (zdS (by omega)) (ga i hi) (gb i hi);have p1:=ht.part a.toArray (i*n) (by simp;omega) w;have p2:=ht.part b.toArray (i*n) (by simp;omega) w;have ea:a.toArray.toList=a:=rfl;have eb:b.toArray.toList=b:=rfl;rw [ea] at p1;rw [eb] at p2;simp only [Op.eqItems,Gd,p1,p2,Qc,h1]
    cases r1 with
    | true =>
     refine⟨r2,by simpa using h3,?_⟩;rw [h4];have:=h2.1 rfl;simp [this]
    | false =>
     refine⟨false,by simp,?_⟩;simp only [Ku,false_iff];intro h;have:=h2.2 (h i KB)
     cases this
  obtain⟨r,h1,h2⟩:=key (List.range m) fun i hi=>Ut.1 hi;refine⟨r,?_,?_⟩
  ·have:=run_equalIn_array (P:=P) w (d+k) a.toArray b.toArray hu hie;rw [ht.cl] at this;rw [<- UL];exact this.trans h1
  ·rw [h2];exact⟨fun h=>zn7 hn ha hb fun i hi=>h i (Ut.2 hi),fun h i _=>by rw [h]⟩⟩
theorem TyEq.int {T:TypeId} {q:IntKind} (hu:P.underlying T=some (.int q)) (hag:∀ w,(isAgg T).run P w = .ok false w) (hi:∃ i,P.info? T=some i) (hc:P.cellsOf T=1):TyEq P T false 1 1 (fun cs=>∃ x,cs=[.int q x]) :=
 ⟨hag,hi,hc,fun _=>rfl,fun d w a b _ _ ⟨x,hx⟩ ⟨y,hy⟩=>by
  subst hx hy;refine⟨decide (x=y),?_,by simp⟩;simp only [vOf,List.headD_cons,Op.equalIn,Gd,Uy hu,Qc,GA,Ge];congr 1⟩
theorem TyEq.bool {T:TypeId} (hu:P.underlying T=some .bool) (hag:∀ w,(isAgg T).run P w = .ok false w) (hi:∃ i,P.info? T=some i) (hc:P.cellsOf T=1):TyEq P T false 1 1 (fun cs=>∃ x,cs=[.bool x]) :=
 ⟨hag,hi,hc,fun _=>rfl,fun d w a b _ _ ⟨x,hx⟩ ⟨y,hy⟩=>by
  subst hx hy;refine⟨x == y,?_,by simp⟩;simp only [vOf,List.headD_cons,Op.equalIn,Gd,Uy hu,Qc,Ge]⟩
end
end Go.Vc
namespace Go.Proofs.YtnadlhpkpnfmbaaGreatDoor
open Go.Vc Go.RowKit Go.Sei
def zv2 (q:IntKind) (cs:List Value):Prop:=∃ x,cs=[.int q x]
def zvl (cs:List Value):Prop:=∃ x,cs=[.bool x]
theorem tU8:TyEq PG 5 false 1 1 (zv2 .u8) := .int Tryz.underlying5 (fun w=>Tryz.isAgg5 w) (jB (by kernel_rfl) (by kernel_rfl)).1 (by kernel_rfl)
theorem zuo:TyEq PG 4 false 1 1 zvl := .bool Tryz.underlying4 (fun w=>Tryz.isAgg4 w) (jB (by kernel_rfl) (by kernel_rfl)).1 (by kernel_rfl)
theorem uf {T:TypeId} {F:Array Field} (h:Tryz.prog.underlying T=some (.struct F)):Tryz.prog.underlying T=some (.struct (Tryz.prog.fieldsOf T))/\Tryz.prog.fieldsOf T=F:=by
 have:Tryz.prog.fieldsOf T=F:=by unfold Program.fieldsOf;rw [h]
 exact⟨by rw [this];exact h,this⟩
open Classical in
noncomputable def cdec (p:Prop):Bool:=decide p
theorem zr1 {p:Prop} [h:Decidable p]:cdec p=decide p:=by unfold cdec;congr
theorem zdA {p q:Prop} [Decidable q] (h:p↔q):cdec p=decide q:=by
 have:p=q:=propext h;subst this;exact zr1
section
variable {T:TypeId} {n k:Nat} {G:List Value->Prop} (h:TyEq PG T true n k G) (d:Nat) (hd:d+k=10000) (hg:Tryz.prog.eqGuardType Tryz.prog.depth T=false) {a b:List Value} (ha:a.length=n) (hb:b.length=n) (ga:G a) (gb:G b)
include h hd hg ha hb ga gb
omit hg in
theorem equal_ty (w:Wd):(Op.equal T (.agg a.toArray) (.agg b.toArray)).run PG w = .ok (cdec (a=b)) w:=by
 obtain⟨r,h1,h2⟩:=h.eq d w a b ha hb ga gb;have e:r=cdec (a=b):=by
  unfold cdec
  cases r with
  | true=>simp [h2.1 rfl]
  | false =>
   have:¬ a=b:=fun e=>by have:=h2.2 e;cases this
   simp [this]
 rw [hd] at h1;rw [<- e];exact h1
theorem zpk (x y:Operand) (w:Wd):(do eqGuard .neq T x y (.agg a.toArray) (.agg b.toArray);binOp .neq T (.agg a.toArray) (.agg b.toArray)).run PG w = .ok (.bool (!cdec (a=b))) w:=by
 have he:=equal_ty h d hd ha hb ga gb w;have h1:(eqGuard .neq T x y (.agg a.toArray) (.agg b.toArray)).run PG w = .ok () w:=by
  simp only [eqGuard,UB,Ku,Gx,Gd,run_program,Qc,hg,Bool.not_false,GA,Ge]
 rw [Gd,h1];simp only [Qc,binOp,Gd,he,Ge]
theorem zlG (x y:Operand) (w:Wd):(do eqGuard .eql T x y (.agg a.toArray) (.agg b.toArray);binOp .eql T (.agg a.toArray) (.agg b.toArray)).run PG w = .ok (.bool (cdec (a=b))) w:=by
 have he:=equal_ty h d hd ha hb ga gb w;have h1:(eqGuard .eql T x y (.agg a.toArray) (.agg b.toArray)).run PG w = .ok () w:=by
  simp only [eqGuard,UB,Ku,Gx,Gd,run_program,Qc,hg,Bool.not_false,GA,Ge]
 rw [Gd,h1];simp only [Qc,binOp,Gd,he,Ge]
end
theorem zvt:∃ G,TyEq PG 94 true 2 2 G/\∀ r n,G [.bool r,u8 n]:=by
 refine⟨_,.struct (uf Tryz.underlying94).1 (by kernel_rfl) (fun w=>Tryz.isAgg94 w) (jB (by kernel_rfl) (by kernel_rfl)).1 (by kernel_rfl)
  (by rw [(uf Tryz.underlying94).2];exact .cons (by decide) rfl zuo (.cons (by decide) rfl tU8 .nil)),fun r n=>?_⟩
 exact⟨⟨_,rfl⟩,⟨_,rfl⟩,trivial⟩
theorem zvr:∃ G,TyEq PG 96 true 10 3 G/\∀ x,G (qz.enc x):=by
 obtain⟨G,h1,h2⟩:=zvt;refine⟨_,.struct (uf Tryz.underlying96).1 (by kernel_rfl) (fun w=>Tryz.isAgg96 w) (jB (by kernel_rfl) (by kernel_rfl)).1 (by kernel_rfl)
  (by rw [(uf Tryz.underlying96).2];exact .cons (by decide) rfl (tU8.up 1) (.cons (by decide) rfl (tU8.up 1) (.cons (by decide) rfl (tU8.up 1) (.cons (by decide) rfl h1 (.cons (by decide) rfl h1 (.cons (by decide) rfl (tU8.up 1) (.cons (by decide) rfl (tU8.up 1) (.cons (by decide) rfl (tU8.up 1) .nil)))))))),fun x=>?_⟩
 exact⟨⟨_,rfl⟩,⟨_,rfl⟩,⟨_,rfl⟩,h2 _ _,h2 _ _,⟨_,rfl⟩,⟨_,rfl⟩,⟨_,rfl⟩,trivial⟩
theorem zb1 {a b:UInt8} (h:u8 a=u8 b):a=b:=by
 unfold u8 at h;simp only [Value.int.injEq,Gz] at h;exact jc.1 h
theorem zrx {a b:InsD}:qz.enc a=qz.enc b↔a=b:=by
 constructor
 ·intro h;obtain⟨a0,a1,a2,a3,a4,a5,a6,a7,a8,a9⟩:=a;obtain⟨b0,b1,b2,b3,b4,b5,b6,b7,b8,b9⟩:=b;simp only [qz,QQ,Gu,Value.bool.injEq] at h;obtain⟨h0,h1,h2,rfl,h4,rfl,h6,h7,h8,h9⟩:=h;rw [zb1 h0,zb1 h1,zb1 h2,zb1 h4,zb1 h6,zb1 h7,zb1 h8,zb1 h9]
 ·exact fun h=>by rw [h]
theorem zrM (x y:Operand) (a b:InsD) (w:Wd):(do eqGuard .eql 96 x y (.agg (qz.enc a).toArray) (.agg (qz.enc b).toArray);binOp .eql 96 (.agg (qz.enc a).toArray) (.agg (qz.enc b).toArray)).run PG w = .ok (.bool (decide (a=b))) w:=by
 obtain⟨G,h,hG⟩:=zvr;rw [zlG h 9997 rfl (by kernel_rfl) rfl rfl (hG a) (hG b) x y w,zdA zrx]
structure SpV (X:Wd) (g bx:Nat) (x:InsD) (locs after:Nat):Prop where
 c:X.heap[g]?=some (.cells (spC x locs after).toArray 314 (0,0))
 b:X.heap[bx]?=some (.cells #[At0 g] 340 (0,0))
 G:GlobC X
theorem SpV.below {X Y:Wd} {g bx locs after:Nat} {x:InsD} (h:SpV X g bx x locs after) (hb:Bw X Y):SpV Y g bx x locs after:=⟨zb hb h.c,zb hb h.b,h.G.below hb⟩
theorem SpV.cells {X:Wd} {g bx locs after:Nat} {x:InsD} (h:SpV X g bx x locs after):zq X ⟨g,0,none⟩ (spC x locs after):=za h.c
section
variable {g bx locs after:Nat} {x:InsD} {w:Wd}
theorem zrY (h:SpV w g bx x locs after):CB 243 #[At0 bx] w (.bool (decide (1<=x.op.toNat)&&decide (x.op.toNat<=8))):=by
 refine zI 16 [At0 bx] Tryz.func243 ?_;refine⟨_,zc (za h.b) (i:=0) rfl,_,zc h.cells (i:=0) rfl,biE (fun h1=>?_) fun h1=>?_⟩
 ·have h1:(1:Int)<=x.op.toNat:=dT h1;refine⟨_,zc (za h.b) (i:=0) rfl,_,zc h.cells (i:=0) rfl,rb ?_,Gm _ _⟩;rw [Ux (p:=1<=x.op.toNat) (by omega),UD,QJ];show (x.op.toNat:Int)<=8↔_;omega
 ·have h1:¬ (1:Int)<=x.op.toNat:=dF h1;refine⟨rb ?_,Gm _ _⟩;rw [Ul (p:=1<=x.op.toNat) (by omega)];rfl
theorem zrX (h:SpV w g bx x locs after) (hop:x.op.toNat<=8):CB 244 #[At0 bx] w (.bool (decide (x=zgj x))):=by
 refine zI 9 [At0 bx] Tryz.func244 ?_;have hd:SpV w.drew g bx x locs after:=h.below (Gm _ w).drew;refine DrawE.ord [] [0,1,2,3,4,5,6,7] (by kernel_rfl) ⟨_,zc (za hd.b) (i:=0) rfl,qz.enc x,rfl,zN (n:=0) (m:=10) hd.cells,hlt hd.c,_,zc (za hd.b) (i:=0) rfl,cmo (zpl hd.cells (hlt hd.c) hop hd.G) ?_⟩;rintro e V ⟨rfl,hb⟩;exact⟨hb,_,fun w=>zrM _ _ x (zgj x) w,rfl,(Gm _ w).drew.trans hb⟩
theorem zrW (h:SpV w g bx x locs after):CB 246 #[At0 bx] w (.bool (decide (x.dst.toNat<8))):=by
 refine zI 8 [At0 bx] Tryz.func246 ?_;refine⟨_,zc (za h.b) (i:=0) rfl,_,zc h.cells (i:=1) rfl,rb ?_,Gm _ _⟩;show decide ((x.dst.toNat:Int)<8)=_;rw [QJ];omega
theorem zrV (h:SpV w g bx x locs after) (hop:x.op.toNat<=8):CB 247 #[At0 bx] w (.bool (!jw x.op 2||decide (x.loc.toNat<locs))):=by
 refine zI 18 [At0 bx] Tryz.func247 ?_;have hd:SpV w.drew g bx x locs after:=h.below (Gm _ w).drew;refine DrawE.ord [] [0,1,2,3,4,5,6,7,8,9,10,11,12,13,14,15,16] (by kernel_rfl) ⟨_,zc (za hd.b) (i:=0) rfl,cmo (ze6 2 hd.cells hop hd.G) ?_⟩;rintro e _ ⟨rfl,rfl⟩;refine⟨Gm _ _,biE (fun h1=>?_) fun h1=>?_⟩
 ·have h1:(!jw x.op 2)=true:=h1;exact⟨rb (by rw [h1];rfl),(Gm _ w).drew⟩
 ·have h1:(!jw x.op 2)=false:=h1;refine⟨_,zc (za hd.b) (i:=0) rfl,_,zc hd.cells (i:=2) rfl,_,qH _,_,zc (za hd.b) (i:=0) rfl,_,zc hd.cells (i:=10) rfl,rb ?_,(Gm _ w).drew⟩;rw [h1,UA,QJ];omega
theorem zrU (h:SpV w g bx x locs after):CB 249 #[At0 bx] w (.bool (zlX x.ar x.an&&zlX x.br x.bn)):=by
 refine zI 16 [At0 bx] Tryz.func249 ?_;refine⟨_,zc (za h.b) (i:=0) rfl,[.bool x.ar,u8 x.an],rfl,zN (n:=3) (m:=2) h.cells,hlt h.c,cmo (zhw x.ar x.an w) ?_⟩;rintro e V ⟨rfl,hb⟩;have hV:=h.below hb;refine biE (fun h1=>?_) fun h1=>?_
 ·have h1:zlX x.ar x.an=true:=h1;refine⟨_,zc (za hV.b) (i:=0) rfl,[.bool x.br,u8 x.bn],rfl,zN (n:=5) (m:=2) hV.cells,hlt hV.c,cmo (zhw x.br x.bn V) ?_⟩;rintro e U ⟨rfl,hb2⟩;exact⟨rb (by rw [h1,UD]),(zst hb hb2)⟩
 ·have h1:zlX x.ar x.an=false:=h1;exact⟨rb (by rw [h1,Un]),hb⟩
theorem zrT (h:SpV w g bx x locs after) (hop:x.op.toNat<=8):CB 253 #[At0 bx] w (.bool (!jw x.op 64||(decide (1<=x.skip.toNat)&&decide (x.skip.toNat<=after)))):=by
 refine zI 26 [At0 bx] Tryz.func253 ?_;have hd:SpV w.drew g bx x locs after:=h.below (Gm _ w).drew;refine DrawE.ord [] [0,1,2,3,4,5,6,7,8,9,10,11,12,13,14,15,16,17,18,19,20,21,22,23,24] (by kernel_rfl) ⟨_,zc (za hd.b) (i:=0) rfl,cmo (ze6 64 hd.cells hop hd.G) ?_⟩;rintro e _ ⟨rfl,rfl⟩;refine⟨Gm _ _,biE (fun h1=>?_) fun h1=>?_⟩
 ·have h1:(!jw x.op 64)=true:=h1;exact⟨rb (by rw [h1];rfl),(Gm _ w).drew⟩
 ·have h1:(!jw x.op 64)=false:=h1;rw [h1,UA];refine⟨_,zc (za hd.b) (i:=0) rfl,_,zc hd.cells (i:=9) rfl,biE (fun h2=>?_) fun h2=>?_⟩
  ·have h2:(1:Int)<=x.skip.toNat:=dT h2;refine⟨_,zc (za hd.b) (i:=0) rfl,_,zc hd.cells (i:=9) rfl,_,qH _,_,zc (za hd.b) (i:=0) rfl,_,zc hd.cells (i:=11) rfl,rb ?_,(Gm _ w).drew⟩;rw [Ux (p:=1<=x.skip.toNat) (by omega),UD,QJ];omega
  ·have h2:¬ (1:Int)<=x.skip.toNat:=dF h2;refine⟨rb ?_,(Gm _ w).drew⟩;rw [Ul (p:=1<=x.skip.toNat) (by omega)];rfl
end
def zjd (g bx:Nat):List Value:=[.func (.func 243) #[] #[At0 bx],.func (.func 244) #[] #[At0 bx],.func (.func 246) #[] #[At0 bx],
 .func (.func 247) #[] #[At0 bx],.func (.func 249) #[] #[At0 bx],.func (.func 251) #[At0 g] #[],.func (.func 252) #[At0 g] #[],
 .func (.func 253) #[] #[At0 bx]]
theorem zrS {g:Nat} {w:Wd}:Calls PG 224 #[At0 g] w fun e w'=>e = .returned (.slice (some ⟨w.heap.size+1,0,none⟩) 8 8) /\
  w'.heap[w.heap.size]?=some (.cells #[At0 g] 340 (0,0))/\w'.heap[w.heap.size+1]?=some (.cells (zjd g w.heap.size).toArray 41 (0,0))/\w'.heap.size=w.heap.size+2/\Bw w w':=by
 refine zI 14 [At0 g] Tryz.func224 ?_;obtain⟨W,hW⟩:=nm (w.alloc (.cells #[At0 g] 340));have hb:W.heap[w.heap.size]?=some (.cells #[At0 g] 340 (0,0)):=by rw [hW];exact zt w _
 have hs:W.heap.size=w.heap.size+1:=by rw [hW,wz]
 have hbb:Bw w W:=by rw [hW];exact (zba w _)
 refine⟨_,zc (za (zt w _)) (i:=0) rfl,_,zc (za (zt w _)) (i:=0) rfl,⟨by decide,by decide,rfl⟩,zjd g w.heap.size,rfl,?_⟩;have hs1:=wz w (.cells #[At0 g] 340);refine⟨?_,?_,?_,?_,?_⟩
 ·show Ending.returned (.slice (some ⟨(w.alloc (.cells #[At0 g] 340)).heap.size,0,none⟩) 8 8)=_;rw [hs1]
 ·exact qe _ (zt w _)
 ·rw [<- hs1];exact zt _ _
 ·rw [wz,wz]
 ·exact ((zba w _)).alloc (by simp) _
structure ThI (X:Wd) (L:Nat) (x:InsD) (locs after:Nat):Prop where
 c:X.heap[L]?=some (.cells (spC x locs after).toArray 314 (0,0))
 b:X.heap[L+1]?=some (.cells #[At0 L] 340 (0,0))
 s:X.heap[L+2]?=some (.cells (zjd L (L+1)).toArray 41 (0,0))
theorem ThI.below {X Y:Wd} {L:Nat} {x:InsD} {locs after:Nat} (h:ThI X L x locs after) (hb:Bw X Y):ThI Y L x locs after:=⟨zb hb h.c,zb hb h.b,zb hb h.s⟩
def zry:InsD:=⟨0,0,0,false,0,false,0,0,0,0⟩
theorem zkS {l:List Bool}:∀ {n:Nat},(∀ j,j<n->l[j]?=some true)->n=l.length->l.all id=true:=by
 intro n h e;rw [Ql];intro b hb;obtain⟨j,hj,rfl⟩:=Ki hb;have:=h j (by omega);rw [gE hj] at this;exact Ui this
theorem zqn {l:List Bool} {j:Nat} (h:l[j]?=some false):l.all id=false:=by
 rw [KO];obtain⟨hj,e⟩:=Jq.1 h;exact⟨l[j],gM _,by rw [e];decide⟩
theorem zdx {l:List InsD} {k locs:Nat} (hkl:k<l.length) {i:Nat} (h:(qX l[k] locs (l.length-1-k))[i]?=some false) {w X:Wd} (hb:Bw w X) :
  Ending.returned (.bool false) = .returned (.bool (jK l locs))/\Bw w X:=by
 refine⟨rb ?_,hb⟩;symm;unfold jK;rw [Bool.and_eq_false_iff];refine .inr ?_;rw [KO];refine⟨k,Ut.2 hkl,?_⟩;rw [gE hkl];show ¬ zpE l[k] locs (l.length-1-k)=true;unfold zpE;rw [zqn h];simp
theorem zkV {p:OA} {cap locs:Nat} {l:List InsD} {w:Wd} (hl:SlR qz w p l) (hG:GlobC w) (hn:l.length<=140737488351232) :
  CB 189 #[.slice p l.length cap,i64 locs] w (.bool (jK l locs)):=by
 refine zI 43 [.slice p l.length cap,i64 locs] Tryz.func189 ?_;obtain⟨L,hL⟩:=nm (w.heap.size);refine biE (fun h=>?_) fun h=>?_
 ·have h:(12:Int)<l.length:=dT h;exact⟨rb (by unfold jK;rw [Ul (by omega)];rfl),Gm _ _⟩
 have h12:¬ (12:Int)<l.length:=dF h;refine⟨spC zry locs 0,rfl,zl (X:=w) (v := .agg (spC zry locs 0).toArray) zvL rfl rfl rfl fun V hbV fV sV=>cmo zrS ?_⟩;rintro e W0 ⟨rfl,hbx,hsl,hsz,hb0⟩;rw [sV,<- hL] at hsz hbx hsl;have hI0:ThI W0 L zry locs 0:=⟨hL▸zb hb0 fV,hbx,hsl⟩;have hbw:Bw w W0:=zst hbV hb0;have p1:some (Value.pointer (some ⟨w.heap.size,0,none⟩))=some (At0 L):=by rw [hL]
 have p2:some (Value.slice (some ⟨V.heap.size+1,0,none⟩) 8 8)=some (Value.slice (some ⟨L+2,0,none⟩) 8 8):=by rw [sV,hL]
 clear hbx hsl fV sV hb0 hbV;refine⟨Nat,fun k=>⟨[(0,.slice p l.length cap),(1,i64 locs),(5,At0 L),(6,.slice (some ⟨L+2,0,none⟩) 8 8),(17,.slice p l.length cap),(18,i64 l.length),(19,i64 (k:Nat))],[]⟩,
  fun k X=>k<=l.length/\(∀ i,i<k->∀ x,l[i]?=some x->zpE x locs (l.length-1-i)=true)/\(∃ x aft,ThI X L x locs aft)/\Bw w X,fun k=>l.length-k,0,
  ⟨.cons rfl (.cons rfl (.cons p1 (.cons p2 (.cons rfl (.cons rfl (.cons rfl .nil)))))),rfl⟩,⟨Gj _,fun i hi=>by omega,⟨zry,0,hI0⟩,hbw⟩,?_⟩
 rintro k X ⟨hk,hdone,⟨x0,a0,hI⟩,hbX⟩;dsimp only at hk hdone ⊢;refine biE (fun hc=>?_) fun hc=>?_
 ·have hc:(k:Int)<(l.length:Int):=dT hc;have hkl:k<l.length:=by omega
  obtain⟨b,o,rfl,hbl,hat⟩:=hl.at hkl;refine⟨k,rfl,hkl,?_⟩;have hx:=hat k hkl;refine⟨qz.enc l[k],rfl,ja hbX hbl hx,nL hbl hbX.size,zl (X:=X) (v := .agg (qz.enc l[k]).toArray) k96 rfl rfl rfl fun Y hbY fY sY=>⟨qz.enc l[k],rfl,za fY,hlt fY,((l.length-1:Nat):Int),(zi (by omega)).trans (by omega),((l.length-1-k:Nat):Int),(zi (by omega)).trans (by omega),?_⟩⟩;have hY:=hI.below hbY;refine jt k96 hY.c (o:=0) (v := .agg (qz.enc l[k]).toArray) rfl (by show 0+10<=12;omega) rfl fun Z fZ gZ sZ=>jt k3 fZ (o:=11) (v:=i64 (l.length-1-k:Nat)) rfl (by show 11+1<=12;omega) rfl fun U fU gU sU=>?_;have hIU:ThI U L l[k] locs (l.length-1-k):=⟨fU,(gU.block _ (by have:=hlt hY.b;omega) (by simp)).trans ((gZ.block _ (hlt hY.b) (by simp)).trans hY.b),(gU.block _ (by have:=hlt hY.s;omega) (by simp)).trans ((gZ.block _ (hlt hY.s) (by simp)).trans hY.s)⟩;have hbU:Bw w U:=by
   have h1:Bw w Y:=zst hbX hbY;have h2:∀ (A B:Wd),Bw w A->A.grownBy B (some L)->Bw w B:=fun A B ha hg=>ha.trans ⟨hg.os,hg.tape,hg.output,hg.size,fun j hj=>hg.block j (nL hj ha.size) (by simp;omega)⟩;exact h2 _ _ (h2 _ _ h1 gZ) gU
  refine⟨Nat,fun j=>⟨[(0,.slice (some ⟨b,o,none⟩) l.length cap),(1,i64 locs),(5,At0 L),(6,.slice (some ⟨L+2,0,none⟩) 8 8),(17,.slice (some ⟨b,o,none⟩) l.length cap),(18,i64 l.length),(19,i64 (k:Nat)),(32,.slice (some ⟨L+2,0,none⟩) 8 8),(33,i64 8),(34,i64 (j:Nat))],[]⟩,
   fun j X=>j<=8/\(∀ i,i<j->(qX l[k] locs (l.length-1-k))[i]?=some true)/\ThI X L l[k] locs (l.length-1-k)/\Bw w X,fun j=>8-j,0,
   (cvE rfl rfl),⟨Gj _,fun i hi=>by omega,hIU,hbU⟩,?_⟩
  clear hIU hbU;rintro j X2 ⟨hj,hpre,hI2,hb2⟩;dsimp only at hj hpre ⊢;have hG2:GlobC X2:=hG.below hb2;have hS:SpV X2 L (L+1) l[k] locs (l.length-1-k):=⟨hI2.c,hI2.b,hG2⟩;refine biE (fun hc2=>?_) fun hc2=>?_
  ·have hc2:(j:Int)<8:=dT hc2;refine⟨j,rfl,(by omega),?_⟩;have ho:0<j->l[k].op.toNat<=8:=fun h0=>by
    have:=Ui (hpre 0 h0);rw [bAT] at this;exact dT this.2
   have hat2:∀ {v:Value},(zjd L (L+1))[j]?=some v->X2.cell? ⟨L+2,0+j*1,none⟩=some v:=fun hv=>by
    have:=zc (za hI2.s) (i:=j) (by simpa using hv);rw [Gi];exact this
   have hcs:j=0\/j=1\/j=2\/j=3\/j=4\/j=5\/j=6\/j=7:=by omega
   rcases hcs with rfl | rfl | rfl | rfl | rfl | rfl | rfl | rfl
   ·refine⟨_,hat2 rfl,cmo (zrY hS) ?_⟩;rintro e W ⟨rfl,hbW⟩;have hI3:=hI2.below hbW;refine biE (fun hb=>?_) fun hb=>?_
    ·have hb:(!((qX l[k] locs (l.length-1-k))[0]'(by show 0<8;decide)))=true:=hb;have hb:(qX l[k] locs (l.length-1-k))[0]?=some false:=(by rw [gE (by show 0<8;decide)];exact Gw some (by rw [<- UO ((qX l[k] locs (l.length-1-k))[0]'(by show 0<8;decide)),hb];rfl));exact zdx hkl hb ((zst hb2 hbW))
    ·have hb:(!((qX l[k] locs (l.length-1-k))[0]'(by show 0<8;decide)))=false:=hb;have hb:(qX l[k] locs (l.length-1-k))[0]?=some true:=(by rw [gE (by show 0<8;decide)];exact Gw some (by rw [<- UO ((qX l[k] locs (l.length-1-k))[0]'(by show 0<8;decide)),hb];rfl));refine⟨_,(zi (by omega)).trans rfl,1,(cvE rfl rfl),⟨by omega,fun i hi=>?_,hI3,(zst hb2 hbW)⟩,by decide⟩;by_cases hik:i=0
     ·rw [hik];exact hb
     ·exact hpre i (by omega)
   ·refine⟨_,hat2 rfl,cmo (zrX hS (ho (by omega))) ?_⟩;rintro e W ⟨rfl,hbW⟩;have hI3:=hI2.below hbW;refine biE (fun hb=>?_) fun hb=>?_
    ·have hb:(!((qX l[k] locs (l.length-1-k))[1]'(by show 1<8;decide)))=true:=hb;have hb:(qX l[k] locs (l.length-1-k))[1]?=some false:=(by rw [gE (by show 1<8;decide)];exact Gw some (by rw [<- UO ((qX l[k] locs (l.length-1-k))[1]'(by show 1<8;decide)),hb];rfl));exact zdx hkl hb ((zst hb2 hbW))
    ·have hb:(!((qX l[k] locs (l.length-1-k))[1]'(by show 1<8;decide)))=false:=hb;have hb:(qX l[k] locs (l.length-1-k))[1]?=some true:=(by rw [gE (by show 1<8;decide)];exact Gw some (by rw [<- UO ((qX l[k] locs (l.length-1-k))[1]'(by show 1<8;decide)),hb];rfl));refine⟨_,(zi (by omega)).trans rfl,2,(cvE rfl rfl),⟨by omega,fun i hi=>?_,hI3,(zst hb2 hbW)⟩,by decide⟩;by_cases hik:i=1
     ·rw [hik];exact hb
     ·exact hpre i (by omega)
   ·refine⟨_,hat2 rfl,cmo (zrW hS) ?_⟩;rintro e W ⟨rfl,hbW⟩;have hI3:=hI2.below hbW;refine biE (fun hb=>?_) fun hb=>?_
    ·have hb:(!((qX l[k] locs (l.length-1-k))[2]'(by show 2<8;decide)))=true:=hb;have hb:(qX l[k] locs (l.length-1-k))[2]?=some false:=(by rw [gE (by show 2<8;decide)];exact Gw some (by rw [<- UO ((qX l[k] locs (l.length-1-k))[2]'(by show 2<8;decide)),hb];rfl));exact zdx hkl hb ((zst hb2 hbW))
    ·have hb:(!((qX l[k] locs (l.length-1-k))[2]'(by show 2<8;decide)))=false:=hb;have hb:(qX l[k] locs (l.length-1-k))[2]?=some true:=(by rw [gE (by show 2<8;decide)];exact Gw some (by rw [<- UO ((qX l[k] locs (l.length-1-k))[2]'(by show 2<8;decide)),hb];rfl));refine⟨_,(zi (by omega)).trans rfl,3,(cvE rfl rfl),⟨by omega,fun i hi=>?_,hI3,(zst hb2 hbW)⟩,by decide⟩;by_cases hik:i=2
     ·rw [hik];exact hb
     ·exact hpre i (by omega)
   ·refine⟨_,hat2 rfl,cmo (zrV hS (ho (by omega))) ?_⟩;rintro e W ⟨rfl,hbW⟩;have hI3:=hI2.below hbW;refine biE (fun hb=>?_) fun hb=>?_
    ·have hb:(!((qX l[k] locs (l.length-1-k))[3]'(by show 3<8;decide)))=true:=hb;have hb:(qX l[k] locs (l.length-1-k))[3]?=some false:=(by rw [gE (by show 3<8;decide)];exact Gw some (by rw [<- UO ((qX l[k] locs (l.length-1-k))[3]'(by show 3<8;decide)),hb];rfl));exact zdx hkl hb ((zst hb2 hbW))
    ·have hb:(!((qX l[k] locs (l.length-1-k))[3]'(by show 3<8;decide)))=false:=hb;have hb:(qX l[k] locs (l.length-1-k))[3]?=some true:=(by rw [gE (by show 3<8;decide)];exact Gw some (by rw [<- UO ((qX l[k] locs (l.length-1-k))[3]'(by show 3<8;decide)),hb];rfl));refine⟨_,(zi (by omega)).trans rfl,4,(cvE rfl rfl),⟨by omega,fun i hi=>?_,hI3,(zst hb2 hbW)⟩,by decide⟩;by_cases hik:i=3
     ·rw [hik];exact hb
     ·exact hpre i (by omega)
   ·refine⟨_,hat2 rfl,cmo (zrU hS) ?_⟩;rintro e W ⟨rfl,hbW⟩;have hI3:=hI2.below hbW;refine biE (fun hb=>?_) fun hb=>?_
    ·have hb:(!((qX l[k] locs (l.length-1-k))[4]'(by show 4<8;decide)))=true:=hb;have hb:(qX l[k] locs (l.length-1-k))[4]?=some false:=(by rw [gE (by show 4<8;decide)];exact Gw some (by rw [<- UO ((qX l[k] locs (l.length-1-k))[4]'(by show 4<8;decide)),hb];rfl));exact zdx hkl hb ((zst hb2 hbW))
    ·have hb:(!((qX l[k] locs (l.length-1-k))[4]'(by show 4<8;decide)))=false:=hb;have hb:(qX l[k] locs (l.length-1-k))[4]?=some true:=(by rw [gE (by show 4<8;decide)];exact Gw some (by rw [<- UO ((qX l[k] locs (l.length-1-k))[4]'(by show 4<8;decide)),hb];rfl));refine⟨_,(zi (by omega)).trans rfl,5,(cvE rfl rfl),⟨by omega,fun i hi=>?_,hI3,(zst hb2 hbW)⟩,by decide⟩;by_cases hik:i=4
     ·rw [hik];exact hb
     ·exact hpre i (by omega)
   ·refine⟨_,hat2 rfl,cmo (zkb hS.cells) ?_⟩;rintro e _ ⟨rfl,rfl⟩;have hbW:Bw X2 X2:=Gm _ _;have hI3:=hI2;refine biE (fun hb=>?_) fun hb=>?_
    ·have hb:(!((qX l[k] locs (l.length-1-k))[5]'(by show 5<8;decide)))=true:=hb;have hb:(qX l[k] locs (l.length-1-k))[5]?=some false:=(by rw [gE (by show 5<8;decide)];exact Gw some (by rw [<- UO ((qX l[k] locs (l.length-1-k))[5]'(by show 5<8;decide)),hb];rfl));exact zdx hkl hb ((zst hb2 hbW))
    ·have hb:(!((qX l[k] locs (l.length-1-k))[5]'(by show 5<8;decide)))=false:=hb;have hb:(qX l[k] locs (l.length-1-k))[5]?=some true:=(by rw [gE (by show 5<8;decide)];exact Gw some (by rw [<- UO ((qX l[k] locs (l.length-1-k))[5]'(by show 5<8;decide)),hb];rfl));refine⟨_,(zi (by omega)).trans rfl,6,(cvE rfl rfl),⟨by omega,fun i hi=>?_,hI3,(zst hb2 hbW)⟩,by decide⟩;by_cases hik:i=5
     ·rw [hik];exact hb
     ·exact hpre i (by omega)
   ·refine⟨_,hat2 rfl,cmo (znT hS.cells) ?_⟩;rintro e _ ⟨rfl,rfl⟩;have hbW:Bw X2 X2:=Gm _ _;have hI3:=hI2;refine biE (fun hb=>?_) fun hb=>?_
    ·have hb:(!((qX l[k] locs (l.length-1-k))[6]'(by show 6<8;decide)))=true:=hb;have hb:(qX l[k] locs (l.length-1-k))[6]?=some false:=(by rw [gE (by show 6<8;decide)];exact Gw some (by rw [<- UO ((qX l[k] locs (l.length-1-k))[6]'(by show 6<8;decide)),hb];rfl));exact zdx hkl hb ((zst hb2 hbW))
    ·have hb:(!((qX l[k] locs (l.length-1-k))[6]'(by show 6<8;decide)))=false:=hb;have hb:(qX l[k] locs (l.length-1-k))[6]?=some true:=(by rw [gE (by show 6<8;decide)];exact Gw some (by rw [<- UO ((qX l[k] locs (l.length-1-k))[6]'(by show 6<8;decide)),hb];rfl));refine⟨_,(zi (by omega)).trans rfl,7,(cvE rfl rfl),⟨by omega,fun i hi=>?_,hI3,(zst hb2 hbW)⟩,by decide⟩;by_cases hik:i=6
     ·rw [hik];exact hb
     ·exact hpre i (by omega)
   ·refine⟨_,hat2 rfl,cmo (zrT hS (ho (by omega))) ?_⟩;rintro e W ⟨rfl,hbW⟩;have hI3:=hI2.below hbW;refine biE (fun hb=>?_) fun hb=>?_
    ·have hb:(!((qX l[k] locs (l.length-1-k))[7]'(by show 7<8;decide)))=true:=hb;have hb:(qX l[k] locs (l.length-1-k))[7]?=some false:=(by rw [gE (by show 7<8;decide)];exact Gw some (by rw [<- UO ((qX l[k] locs (l.length-1-k))[7]'(by show 7<8;decide)),hb];rfl));exact zdx hkl hb ((zst hb2 hbW))
    ·have hb:(!((qX l[k] locs (l.length-1-k))[7]'(by show 7<8;decide)))=false:=hb;have hb:(qX l[k] locs (l.length-1-k))[7]?=some true:=(by rw [gE (by show 7<8;decide)];exact Gw some (by rw [<- UO ((qX l[k] locs (l.length-1-k))[7]'(by show 7<8;decide)),hb];rfl));refine⟨_,(zi (by omega)).trans rfl,8,(cvE rfl rfl),⟨by omega,fun i hi=>?_,hI3,(zst hb2 hbW)⟩,by decide⟩;by_cases hik:i=7
     ·rw [hik];exact hb
     ·exact hpre i (by omega)
  ·have hc2:¬ (j:Int)<8:=dF hc2;obtain rfl:j=8:=by omega
   have hok:zpE l[k] locs (l.length-1-k)=true:=zkS hpre rfl;refine nxI (by omega) ⟨k+1,(cvE rfl rfl),⟨hkl,fun i hi x hlx=>?_,⟨_,_,hI2⟩,hb2⟩,zdc (by omega)⟩;by_cases hik:i=k
   ·subst hik;rw [gE hkl] at hlx;rw [<- Ui hlx];exact hok
   ·exact hdone i (by omega) x hlx
 ·have hc:¬ (k:Int)<(l.length:Int):=dF hc;obtain rfl:k=l.length:=by omega
  refine⟨rb ?_,hbX⟩;unfold jK;rw [Ux (by omega),UD,Eq.comm,Ql];intro i hi;have hi:i<l.length:=Ut.1 hi;rw [gE hi];exact hdone i hi _ (gE hi)
end Go.Proofs.YtnadlhpkpnfmbaaGreatDoor
