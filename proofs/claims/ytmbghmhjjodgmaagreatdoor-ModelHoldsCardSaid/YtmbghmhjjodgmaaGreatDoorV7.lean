/- Contracts of functions, and plain facts, for the law that the last text of this claim proves. -/
import Derived.Test.YtmbghmhjjodgmaaGreatDoorV6
import Derived.Test.YtmbghmhjjodgmaaGreatDoorV1
import Derived.Test.YtmbghmhjjodgmaaGreatDoorV5
import Derived.Test.YtmbghmhjjodgmaaGreatDoorV4
set_option linter.unusedSimpArgs false
set_option linter.unusedVariables false
namespace Go.Proofs.YtmbghmhjjodgmaaGreatDoor
open Go.Vc Go.RowKit Go.Sei
theorem zne {m:UInt8} {x:ExD} {a d:Nat} {f l s:Bool} (h:∀ k,2<=k->k<=6->m.toNat≠k):zau m.toNat x a d f l s=false:=by
 obtain⟨n,hn⟩:=nm (m.toNat);rw [<- hn] at h ⊢
 match n,h with
 | 0,_=>rfl
 | 1,_=>rfl
 | 2,h=>exact absurd rfl (h 2 (by decide) (by decide))
 | 3,h=>exact absurd rfl (h 3 (by decide) (by decide))
 | 4,h=>exact absurd rfl (h 4 (by decide) (by decide))
 | 5,h=>exact absurd rfl (h 5 (by decide) (by decide))
 | 6,h=>exact absurd rfl (h 6 (by decide) (by decide))
 | n+7,_=>rfl
abbrev zEv:Obj := .cells (evE.enc ev0).toArray 54
abbrev EvB (X:World) (b:Nat) (e:Ev):Prop:=X.heap[b]?=some (.cells (evE.enc e).toArray 54 (0,0))
theorem zaS {X W:World} {P Q:Nat} {e e0 e1:Ev} (hb:Bw X W) (fP:EvB W P e0) (fQ:EvB W Q e1) (hPQ:P≠Q) (hP:X.heap.size<=P) {K:World->Prop} (k:∀ Y,EvB Y P e->EvB Y Q e1->Bw X Y->K Y) :
  SatR ((storeVar 54 ⟨P,0,none⟩ (.agg (evE.enc e).toArray)).run Tryz.prog W) fun _ w'=>K w' :=
 zaq (v := .agg (evE.enc e).toArray) k54 fP rfl rfl (List.all_eq_true.2 fun u hu=>evE.one e u hu) (k _ (zal fP) ((zan (fun h=>hPQ h.symm)).trans fQ) (zah hb hP _))
section
variable {w:World} {c:Nat} {x:ExD} {q:Option Addr}
theorem zkK {a:Nat} (hv:ExV w x q) (ha:a<x.ev.length):CB 107 #[.agg (exC x q c).toArray,i64 (a:Nat)] w (.bool (zfQ x a)):=by
 refine cofM 21 [.agg (exC x q c).toArray,i64 (a:Nat)] (.c .p .p) Tryz.func107 ?_;obtain⟨L,hL⟩:=nm (w.heap.size);refine⟨Unit,fun _=>⟨[(1,i64 (a:Nat)),(2,At0 L)],[]⟩,fun _ X=>ExH X L x q c/\Bw w X,⟨(),⟨.cons (rfl) (.cons (by rw [hL];rfl) (.nil)),rfl⟩,by rw [hL];exact hnew w _,(zba w _)⟩,?_⟩;rintro _ X ⟨fX,hbX⟩;obtain⟨bq,oq,hqe,hbq,hat⟩:=zd7 (hv.below hbX).ev (by omega:0<x.ev.length);subst hqe;refine⟨_,zaz (zab fX),?_⟩;refine⟨a,rfl,by omega,?_⟩;refine⟨_,zc7 (hat a (by omega)),?_⟩;refine biE (fun h1=>?_) fun h1=>?_
 ·have h1:=zdE.symm.trans (notB h1);refine⟨_,zaz (zab fX),?_⟩;refine⟨a,rfl,by omega,?_⟩;refine⟨_,zsr (hat a (by omega)),?_⟩;exact⟨rb (((zdE)).trans (by simp [zfQ,kneQ,h1])),hbX⟩
 ·have h1:=zdE.symm.trans (notF h1);exact⟨rb (by simp [zfQ,kneQ,h1]),hbX⟩
theorem znf {m:UInt8} {a d:Nat} {full loads stores:Bool} (hv:ExV w x q) (ha:a<x.ev.length) (hd:d<x.ev.length):CB 72 #[u8 m,.agg (exC x q c).toArray,i64 (a:Nat),i64 (d:Nat),.bool full,.bool loads,.bool stores] w (.bool (zau m.toNat x a d full loads stores)):=by
 refine cofM 187 [u8 m,.agg (exC x q c).toArray,i64 (a:Nat),i64 (d:Nat),.bool full,.bool loads,.bool stores] (.c .p (.c .p (.c .p (.c .p .p)))) Tryz.func72 ?_;obtain⟨L,hL⟩:=nm (w.heap.size);refine⟨Unit,fun _=>⟨[(0,u8 m),(2,i64 (a:Nat)),(3,i64 (d:Nat)),(4,.bool full),(5,.bool loads),(6,.bool stores),(8,At0 L)],[]⟩,fun _ X=>ExH X L x q c/\Bw w X,⟨(),⟨.cons (rfl) (.cons (rfl) (.cons (rfl) (.cons (rfl) (.cons (rfl) (.cons (rfl) (.cons (by rw [hL];rfl) (.nil))))))),rfl⟩,by rw [hL];exact hnew w _,(zba w _)⟩,?_⟩;rintro _ X ⟨fX,hbX⟩;have h16:=hv.n;refine⟨Nat×Nat,fun s=>⟨[(0,u8 m),(2,i64 (a:Nat)),(3,i64 (d:Nat)),(4,.bool full),(5,.bool loads),(6,.bool stores),(8,At0 L),(15,At0 s.1),(16,At0 s.2)],[]⟩,fun s Z=>EvB Z s.1 (evA x a)/\EvB Z s.2 (evA x d)/\Bw X Z,?_,?_⟩
 ·obtain⟨bq,oq,hqe,hbq,hat⟩:=zd7 (hv.below hbX).ev (by omega:0<x.ev.length);subst hqe;have b0:Bw X X.drew:=(Below.refl _ _).drew;have y0:=b0.size;refine DrawE.treeQ [12,13] (.op 0 (.op 1 (.op 2 (.op 3 (.op 4 (.op 5 (.op 7 (.alt (.op 10 (.alt (.op 11 (.alt (.op 12 (.op 6 (.op 8 (.op 9 (.op 13 (.nil)))))) (.op 6 (.op 8 (.alt (.op 12 (.op 9 (.op 13 (.nil)))) (.op 9 (.op 12 (.op 13 (.nil))))))))) (.op 6 (.op 8 (.alt (.op 11 (.alt (.op 12 (.op 9 (.op 13 (.nil)))) (.op 9 (.op 12 (.op 13 (.nil)))))) (.op 9 (.op 11 (.op 12 (.op 13 (.nil)))))))))) (.alt (.op 11 (.alt (.op 10 (.alt (.op 12 (.op 6 (.op 8 (.op 9 (.op 13 (.nil)))))) (.op 6 (.op 8 (.alt (.op 12 (.op 9 (.op 13 (.nil)))) (.op 9 (.op 12 (.op 13 (.nil))))))))) (.op 6 (.op 8 (.alt (.op 10 (.alt (.op 12 (.op 9 (.op 13 (.nil)))) (.op 9 (.op 12 (.op 13 (.nil)))))) (.op 9 (.op 10 (.op 12 (.op 13 (.nil)))))))))) (.op 6 (.op 8 (.alt (.op 10 (.alt (.op 11 (.alt (.op 12 (.op 9 (.op 13 (.nil)))) (.op 9 (.op 12 (.op 13 (.nil)))))) (.op 9 (.op 11 (.op 12 (.op 13 (.nil))))))) (.alt (.op 11 (.alt (.op 10 (.alt (.op 12 (.op 9 (.op 13 (.nil)))) (.op 9 (.op 12 (.op 13 (.nil)))))) (.op 9 (.op 10 (.op 12 (.op 13 (.nil))))))) (.op 9 (.alt (.op 10 (.op 11 (.op 12 (.op 13 (.nil))))) (.op 11 (.op 10 (.op 12 (.op 13 (.nil)))))))))))))))))))) (by kernel_rfl) ?_;refine⟨_,zaz (zab (zaa b0 fX)),?_⟩;refine⟨a,rfl,ha,?_⟩;refine⟨evE.enc (evA x a),rfl,zae b0 (hat a ha),nL hbq b0.size,?_⟩;refine And.intro ?_ (And.intro ?_ ?_)
  ·refine⟨(zba _ _),?_⟩;have b1:=b0.alloc b0.size zEv;have z1:=wz X.drew zEv;refine And.intro ?_ ?_
   ·refine⟨(zba _ _),?_⟩;have b2:=b1.alloc b1.size zEv;have z2:=wz (X.drew.alloc zEv) zEv;refine And.intro ?_ ?_
    ·have y3:=b2.size;refine zaS (P:=X.drew.heap.size) (Q:=(X.drew.alloc zEv).heap.size) (e:=evA x a) b2 (hold zEv (hnew X.drew zEv)) (hnew (X.drew.alloc zEv) zEv) (by omega) (by omega) fun V3 p3 q3 b3=>?_;refine⟨_,zaz (zab (zaa b3 fX)),?_⟩;refine⟨d,rfl,hd,?_⟩;refine⟨evE.enc (evA x d),rfl,zae b3 (hat d hd),nL hbq b3.size,?_⟩;have y6:=b3.size;refine zaS (P:=(X.drew.alloc zEv).heap.size) (Q:=X.drew.heap.size) (e:=evA x d) b3 (q3) (p3) (by omega) (by omega) fun V6 p6 q6 b6=>?_;exact⟨(X.drew.heap.size,(X.drew.alloc zEv).heap.size),⟨.cons rfl (.cons rfl (.cons rfl (.cons rfl (.cons rfl (.cons rfl (.cons rfl (.cons rfl (.cons rfl (.nil))))))))),rfl⟩,q6,p6,b6⟩
    ·refine⟨_,zaz (zab (zaa b2 fX)),?_⟩;refine⟨d,rfl,hd,?_⟩;refine And.intro ?_ ?_
     ·have y8:=b2.size;refine zaS (P:=X.drew.heap.size) (Q:=(X.drew.alloc zEv).heap.size) (e:=evA x a) b2 (hold zEv (hnew X.drew zEv)) (hnew (X.drew.alloc zEv) zEv) (by omega) (by omega) fun V8 p8 q8 b8=>?_;refine⟨evE.enc (evA x d),rfl,zae b8 (hat d hd),nL hbq b8.size,?_⟩;have y10:=b8.size;refine zaS (P:=(X.drew.alloc zEv).heap.size) (Q:=X.drew.heap.size) (e:=evA x d) b8 (q8) (p8) (by omega) (by omega) fun V10 p10 q10 b10=>?_;exact⟨(X.drew.heap.size,(X.drew.alloc zEv).heap.size),⟨.cons rfl (.cons rfl (.cons rfl (.cons rfl (.cons rfl (.cons rfl (.cons rfl (.cons rfl (.cons rfl (.nil))))))))),rfl⟩,q10,p10,b10⟩
     ·refine⟨evE.enc (evA x d),rfl,zae b2 (hat d hd),nL hbq b2.size,?_⟩;have y12:=b2.size;refine zaS (P:=X.drew.heap.size) (Q:=(X.drew.alloc zEv).heap.size) (e:=evA x a) b2 (hold zEv (hnew X.drew zEv)) (hnew (X.drew.alloc zEv) zEv) (by omega) (by omega) fun V12 p12 q12 b12=>?_;have y13:=b12.size;refine zaS (P:=(X.drew.alloc zEv).heap.size) (Q:=X.drew.heap.size) (e:=evA x d) b12 (q12) (p12) (by omega) (by omega) fun V13 p13 q13 b13=>?_;exact⟨(X.drew.heap.size,(X.drew.alloc zEv).heap.size),⟨.cons rfl (.cons rfl (.cons rfl (.cons rfl (.cons rfl (.cons rfl (.cons rfl (.cons rfl (.cons rfl (.nil))))))))),rfl⟩,q13,p13,b13⟩
   ·refine⟨_,zaz (zab (zaa b1 fX)),?_⟩;refine⟨d,rfl,hd,?_⟩;refine And.intro ?_ ?_
    ·refine⟨(zba _ _),?_⟩;have b15:=b1.alloc b1.size zEv;have z15:=wz (X.drew.alloc zEv) zEv;refine And.intro ?_ ?_
     ·have y16:=b15.size;refine zaS (P:=X.drew.heap.size) (Q:=(X.drew.alloc zEv).heap.size) (e:=evA x a) b15 (hold zEv (hnew X.drew zEv)) (hnew (X.drew.alloc zEv) zEv) (by omega) (by omega) fun V16 p16 q16 b16=>?_;refine⟨evE.enc (evA x d),rfl,zae b16 (hat d hd),nL hbq b16.size,?_⟩;have y18:=b16.size;refine zaS (P:=(X.drew.alloc zEv).heap.size) (Q:=X.drew.heap.size) (e:=evA x d) b16 (q16) (p16) (by omega) (by omega) fun V18 p18 q18 b18=>?_;exact⟨(X.drew.heap.size,(X.drew.alloc zEv).heap.size),⟨.cons rfl (.cons rfl (.cons rfl (.cons rfl (.cons rfl (.cons rfl (.cons rfl (.cons rfl (.cons rfl (.nil))))))))),rfl⟩,q18,p18,b18⟩
     ·refine⟨evE.enc (evA x d),rfl,zae b15 (hat d hd),nL hbq b15.size,?_⟩;have y20:=b15.size;refine zaS (P:=X.drew.heap.size) (Q:=(X.drew.alloc zEv).heap.size) (e:=evA x a) b15 (hold zEv (hnew X.drew zEv)) (hnew (X.drew.alloc zEv) zEv) (by omega) (by omega) fun V20 p20 q20 b20=>?_;have y21:=b20.size;refine zaS (P:=(X.drew.alloc zEv).heap.size) (Q:=X.drew.heap.size) (e:=evA x d) b20 (q20) (p20) (by omega) (by omega) fun V21 p21 q21 b21=>?_;exact⟨(X.drew.heap.size,(X.drew.alloc zEv).heap.size),⟨.cons rfl (.cons rfl (.cons rfl (.cons rfl (.cons rfl (.cons rfl (.cons rfl (.cons rfl (.cons rfl (.nil))))))))),rfl⟩,q21,p21,b21⟩
    ·refine⟨evE.enc (evA x d),rfl,zae b1 (hat d hd),nL hbq b1.size,?_⟩;refine⟨(zba _ _),?_⟩;have b23:=b1.alloc b1.size zEv;have z23:=wz (X.drew.alloc zEv) zEv;have y24:=b23.size;refine zaS (P:=X.drew.heap.size) (Q:=(X.drew.alloc zEv).heap.size) (e:=evA x a) b23 (hold zEv (hnew X.drew zEv)) (hnew (X.drew.alloc zEv) zEv) (by omega) (by omega) fun V24 p24 q24 b24=>?_;have y25:=b24.size;refine zaS (P:=(X.drew.alloc zEv).heap.size) (Q:=X.drew.heap.size) (e:=evA x d) b24 (q24) (p24) (by omega) (by omega) fun V25 p25 q25 b25=>?_;exact⟨(X.drew.heap.size,(X.drew.alloc zEv).heap.size),⟨.cons rfl (.cons rfl (.cons rfl (.cons rfl (.cons rfl (.cons rfl (.cons rfl (.cons rfl (.cons rfl (.nil))))))))),rfl⟩,q25,p25,b25⟩
  ·refine⟨(zba _ _),?_⟩;have b26:=b0.alloc b0.size zEv;have z26:=wz X.drew zEv;refine And.intro ?_ ?_
   ·refine⟨(zba _ _),?_⟩;have b27:=b26.alloc b26.size zEv;have z27:=wz (X.drew.alloc zEv) zEv;refine And.intro ?_ ?_
    ·have y28:=b27.size;refine zaS (P:=(X.drew.alloc zEv).heap.size) (Q:=X.drew.heap.size) (e:=evA x a) b27 (hnew (X.drew.alloc zEv) zEv) (hold zEv (hnew X.drew zEv)) (by omega) (by omega) fun V28 p28 q28 b28=>?_;refine⟨_,zaz (zab (zaa b28 fX)),?_⟩;refine⟨d,rfl,hd,?_⟩;refine⟨evE.enc (evA x d),rfl,zae b28 (hat d hd),nL hbq b28.size,?_⟩;have y31:=b28.size;refine zaS (P:=X.drew.heap.size) (Q:=(X.drew.alloc zEv).heap.size) (e:=evA x d) b28 (q28) (p28) (by omega) (by omega) fun V31 p31 q31 b31=>?_;exact⟨((X.drew.alloc zEv).heap.size,X.drew.heap.size),⟨.cons rfl (.cons rfl (.cons rfl (.cons rfl (.cons rfl (.cons rfl (.cons rfl (.cons rfl (.cons rfl (.nil))))))))),rfl⟩,q31,p31,b31⟩
    ·refine⟨_,zaz (zab (zaa b27 fX)),?_⟩;refine⟨d,rfl,hd,?_⟩;refine And.intro ?_ ?_
     ·have y33:=b27.size;refine zaS (P:=(X.drew.alloc zEv).heap.size) (Q:=X.drew.heap.size) (e:=evA x a) b27 (hnew (X.drew.alloc zEv) zEv) (hold zEv (hnew X.drew zEv)) (by omega) (by omega) fun V33 p33 q33 b33=>?_;refine⟨evE.enc (evA x d),rfl,zae b33 (hat d hd),nL hbq b33.size,?_⟩;have y35:=b33.size;refine zaS (P:=X.drew.heap.size) (Q:=(X.drew.alloc zEv).heap.size) (e:=evA x d) b33 (q33) (p33) (by omega) (by omega) fun V35 p35 q35 b35=>?_;exact⟨((X.drew.alloc zEv).heap.size,X.drew.heap.size),⟨.cons rfl (.cons rfl (.cons rfl (.cons rfl (.cons rfl (.cons rfl (.cons rfl (.cons rfl (.cons rfl (.nil))))))))),rfl⟩,q35,p35,b35⟩
     ·refine⟨evE.enc (evA x d),rfl,zae b27 (hat d hd),nL hbq b27.size,?_⟩;have y37:=b27.size;refine zaS (P:=(X.drew.alloc zEv).heap.size) (Q:=X.drew.heap.size) (e:=evA x a) b27 (hnew (X.drew.alloc zEv) zEv) (hold zEv (hnew X.drew zEv)) (by omega) (by omega) fun V37 p37 q37 b37=>?_;have y38:=b37.size;refine zaS (P:=X.drew.heap.size) (Q:=(X.drew.alloc zEv).heap.size) (e:=evA x d) b37 (q37) (p37) (by omega) (by omega) fun V38 p38 q38 b38=>?_;exact⟨((X.drew.alloc zEv).heap.size,X.drew.heap.size),⟨.cons rfl (.cons rfl (.cons rfl (.cons rfl (.cons rfl (.cons rfl (.cons rfl (.cons rfl (.cons rfl (.nil))))))))),rfl⟩,q38,p38,b38⟩
   ·refine⟨_,zaz (zab (zaa b26 fX)),?_⟩;refine⟨d,rfl,hd,?_⟩;refine And.intro ?_ ?_
    ·refine⟨(zba _ _),?_⟩;have b40:=b26.alloc b26.size zEv;have z40:=wz (X.drew.alloc zEv) zEv;refine And.intro ?_ ?_
     ·have y41:=b40.size;refine zaS (P:=(X.drew.alloc zEv).heap.size) (Q:=X.drew.heap.size) (e:=evA x a) b40 (hnew (X.drew.alloc zEv) zEv) (hold zEv (hnew X.drew zEv)) (by omega) (by omega) fun V41 p41 q41 b41=>?_;refine⟨evE.enc (evA x d),rfl,zae b41 (hat d hd),nL hbq b41.size,?_⟩;have y43:=b41.size;refine zaS (P:=X.drew.heap.size) (Q:=(X.drew.alloc zEv).heap.size) (e:=evA x d) b41 (q41) (p41) (by omega) (by omega) fun V43 p43 q43 b43=>?_;exact⟨((X.drew.alloc zEv).heap.size,X.drew.heap.size),⟨.cons rfl (.cons rfl (.cons rfl (.cons rfl (.cons rfl (.cons rfl (.cons rfl (.cons rfl (.cons rfl (.nil))))))))),rfl⟩,q43,p43,b43⟩
     ·refine⟨evE.enc (evA x d),rfl,zae b40 (hat d hd),nL hbq b40.size,?_⟩;have y45:=b40.size;refine zaS (P:=(X.drew.alloc zEv).heap.size) (Q:=X.drew.heap.size) (e:=evA x a) b40 (hnew (X.drew.alloc zEv) zEv) (hold zEv (hnew X.drew zEv)) (by omega) (by omega) fun V45 p45 q45 b45=>?_;have y46:=b45.size;refine zaS (P:=X.drew.heap.size) (Q:=(X.drew.alloc zEv).heap.size) (e:=evA x d) b45 (q45) (p45) (by omega) (by omega) fun V46 p46 q46 b46=>?_;exact⟨((X.drew.alloc zEv).heap.size,X.drew.heap.size),⟨.cons rfl (.cons rfl (.cons rfl (.cons rfl (.cons rfl (.cons rfl (.cons rfl (.cons rfl (.cons rfl (.nil))))))))),rfl⟩,q46,p46,b46⟩
    ·refine⟨evE.enc (evA x d),rfl,zae b26 (hat d hd),nL hbq b26.size,?_⟩;refine⟨(zba _ _),?_⟩;have b48:=b26.alloc b26.size zEv;have z48:=wz (X.drew.alloc zEv) zEv;have y49:=b48.size;refine zaS (P:=(X.drew.alloc zEv).heap.size) (Q:=X.drew.heap.size) (e:=evA x a) b48 (hnew (X.drew.alloc zEv) zEv) (hold zEv (hnew X.drew zEv)) (by omega) (by omega) fun V49 p49 q49 b49=>?_;have y50:=b49.size;refine zaS (P:=X.drew.heap.size) (Q:=(X.drew.alloc zEv).heap.size) (e:=evA x d) b49 (q49) (p49) (by omega) (by omega) fun V50 p50 q50 b50=>?_;exact⟨((X.drew.alloc zEv).heap.size,X.drew.heap.size),⟨.cons rfl (.cons rfl (.cons rfl (.cons rfl (.cons rfl (.cons rfl (.cons rfl (.cons rfl (.cons rfl (.nil))))))))),rfl⟩,q50,p50,b50⟩
  ·refine⟨_,zaz (zab (zaa b0 fX)),?_⟩;refine⟨d,rfl,hd,?_⟩;refine And.intro ?_ (And.intro ?_ ?_)
   ·refine⟨(zba _ _),?_⟩;have b52:=b0.alloc b0.size zEv;have z52:=wz X.drew zEv;refine And.intro ?_ ?_
    ·refine⟨(zba _ _),?_⟩;have b53:=b52.alloc b52.size zEv;have z53:=wz (X.drew.alloc zEv) zEv;refine And.intro ?_ ?_
     ·have y54:=b53.size;refine zaS (P:=X.drew.heap.size) (Q:=(X.drew.alloc zEv).heap.size) (e:=evA x a) b53 (hold zEv (hnew X.drew zEv)) (hnew (X.drew.alloc zEv) zEv) (by omega) (by omega) fun V54 p54 q54 b54=>?_;refine⟨evE.enc (evA x d),rfl,zae b54 (hat d hd),nL hbq b54.size,?_⟩;have y56:=b54.size;refine zaS (P:=(X.drew.alloc zEv).heap.size) (Q:=X.drew.heap.size) (e:=evA x d) b54 (q54) (p54) (by omega) (by omega) fun V56 p56 q56 b56=>?_;exact⟨(X.drew.heap.size,(X.drew.alloc zEv).heap.size),⟨.cons rfl (.cons rfl (.cons rfl (.cons rfl (.cons rfl (.cons rfl (.cons rfl (.cons rfl (.cons rfl (.nil))))))))),rfl⟩,q56,p56,b56⟩
     ·refine⟨evE.enc (evA x d),rfl,zae b53 (hat d hd),nL hbq b53.size,?_⟩;have y58:=b53.size;refine zaS (P:=X.drew.heap.size) (Q:=(X.drew.alloc zEv).heap.size) (e:=evA x a) b53 (hold zEv (hnew X.drew zEv)) (hnew (X.drew.alloc zEv) zEv) (by omega) (by omega) fun V58 p58 q58 b58=>?_;have y59:=b58.size;refine zaS (P:=(X.drew.alloc zEv).heap.size) (Q:=X.drew.heap.size) (e:=evA x d) b58 (q58) (p58) (by omega) (by omega) fun V59 p59 q59 b59=>?_;exact⟨(X.drew.heap.size,(X.drew.alloc zEv).heap.size),⟨.cons rfl (.cons rfl (.cons rfl (.cons rfl (.cons rfl (.cons rfl (.cons rfl (.cons rfl (.cons rfl (.nil))))))))),rfl⟩,q59,p59,b59⟩
    ·refine⟨evE.enc (evA x d),rfl,zae b52 (hat d hd),nL hbq b52.size,?_⟩;refine⟨(zba _ _),?_⟩;have b61:=b52.alloc b52.size zEv;have z61:=wz (X.drew.alloc zEv) zEv;have y62:=b61.size;refine zaS (P:=X.drew.heap.size) (Q:=(X.drew.alloc zEv).heap.size) (e:=evA x a) b61 (hold zEv (hnew X.drew zEv)) (hnew (X.drew.alloc zEv) zEv) (by omega) (by omega) fun V62 p62 q62 b62=>?_;have y63:=b62.size;refine zaS (P:=(X.drew.alloc zEv).heap.size) (Q:=X.drew.heap.size) (e:=evA x d) b62 (q62) (p62) (by omega) (by omega) fun V63 p63 q63 b63=>?_;exact⟨(X.drew.heap.size,(X.drew.alloc zEv).heap.size),⟨.cons rfl (.cons rfl (.cons rfl (.cons rfl (.cons rfl (.cons rfl (.cons rfl (.cons rfl (.cons rfl (.nil))))))))),rfl⟩,q63,p63,b63⟩
   ·refine⟨(zba _ _),?_⟩;have b64:=b0.alloc b0.size zEv;have z64:=wz X.drew zEv;refine And.intro ?_ ?_
    ·refine⟨(zba _ _),?_⟩;have b65:=b64.alloc b64.size zEv;have z65:=wz (X.drew.alloc zEv) zEv;refine And.intro ?_ ?_
     ·have y66:=b65.size;refine zaS (P:=(X.drew.alloc zEv).heap.size) (Q:=X.drew.heap.size) (e:=evA x a) b65 (hnew (X.drew.alloc zEv) zEv) (hold zEv (hnew X.drew zEv)) (by omega) (by omega) fun V66 p66 q66 b66=>?_;refine⟨evE.enc (evA x d),rfl,zae b66 (hat d hd),nL hbq b66.size,?_⟩;have y68:=b66.size;refine zaS (P:=X.drew.heap.size) (Q:=(X.drew.alloc zEv).heap.size) (e:=evA x d) b66 (q66) (p66) (by omega) (by omega) fun V68 p68 q68 b68=>?_;exact⟨((X.drew.alloc zEv).heap.size,X.drew.heap.size),⟨.cons rfl (.cons rfl (.cons rfl (.cons rfl (.cons rfl (.cons rfl (.cons rfl (.cons rfl (.cons rfl (.nil))))))))),rfl⟩,q68,p68,b68⟩
     ·refine⟨evE.enc (evA x d),rfl,zae b65 (hat d hd),nL hbq b65.size,?_⟩;have y70:=b65.size;refine zaS (P:=(X.drew.alloc zEv).heap.size) (Q:=X.drew.heap.size) (e:=evA x a) b65 (hnew (X.drew.alloc zEv) zEv) (hold zEv (hnew X.drew zEv)) (by omega) (by omega) fun V70 p70 q70 b70=>?_;have y71:=b70.size;refine zaS (P:=X.drew.heap.size) (Q:=(X.drew.alloc zEv).heap.size) (e:=evA x d) b70 (q70) (p70) (by omega) (by omega) fun V71 p71 q71 b71=>?_;exact⟨((X.drew.alloc zEv).heap.size,X.drew.heap.size),⟨.cons rfl (.cons rfl (.cons rfl (.cons rfl (.cons rfl (.cons rfl (.cons rfl (.cons rfl (.cons rfl (.nil))))))))),rfl⟩,q71,p71,b71⟩
    ·refine⟨evE.enc (evA x d),rfl,zae b64 (hat d hd),nL hbq b64.size,?_⟩;refine⟨(zba _ _),?_⟩;have b73:=b64.alloc b64.size zEv;have z73:=wz (X.drew.alloc zEv) zEv;have y74:=b73.size;refine zaS (P:=(X.drew.alloc zEv).heap.size) (Q:=X.drew.heap.size) (e:=evA x a) b73 (hnew (X.drew.alloc zEv) zEv) (hold zEv (hnew X.drew zEv)) (by omega) (by omega) fun V74 p74 q74 b74=>?_;have y75:=b74.size;refine zaS (P:=X.drew.heap.size) (Q:=(X.drew.alloc zEv).heap.size) (e:=evA x d) b74 (q74) (p74) (by omega) (by omega) fun V75 p75 q75 b75=>?_;exact⟨((X.drew.alloc zEv).heap.size,X.drew.heap.size),⟨.cons rfl (.cons rfl (.cons rfl (.cons rfl (.cons rfl (.cons rfl (.cons rfl (.cons rfl (.cons rfl (.nil))))))))),rfl⟩,q75,p75,b75⟩
   ·refine⟨evE.enc (evA x d),rfl,zae b0 (hat d hd),nL hbq b0.size,?_⟩;refine And.intro ?_ ?_
    ·refine⟨(zba _ _),?_⟩;have b77:=b0.alloc b0.size zEv;have z77:=wz X.drew zEv;refine⟨(zba _ _),?_⟩;have b78:=b77.alloc b77.size zEv;have z78:=wz (X.drew.alloc zEv) zEv;have y79:=b78.size;refine zaS (P:=X.drew.heap.size) (Q:=(X.drew.alloc zEv).heap.size) (e:=evA x a) b78 (hold zEv (hnew X.drew zEv)) (hnew (X.drew.alloc zEv) zEv) (by omega) (by omega) fun V79 p79 q79 b79=>?_;have y80:=b79.size;refine zaS (P:=(X.drew.alloc zEv).heap.size) (Q:=X.drew.heap.size) (e:=evA x d) b79 (q79) (p79) (by omega) (by omega) fun V80 p80 q80 b80=>?_;exact⟨(X.drew.heap.size,(X.drew.alloc zEv).heap.size),⟨.cons rfl (.cons rfl (.cons rfl (.cons rfl (.cons rfl (.cons rfl (.cons rfl (.cons rfl (.cons rfl (.nil))))))))),rfl⟩,q80,p80,b80⟩
    ·refine⟨(zba _ _),?_⟩;have b81:=b0.alloc b0.size zEv;have z81:=wz X.drew zEv;refine⟨(zba _ _),?_⟩;have b82:=b81.alloc b81.size zEv;have z82:=wz (X.drew.alloc zEv) zEv;have y83:=b82.size;refine zaS (P:=(X.drew.alloc zEv).heap.size) (Q:=X.drew.heap.size) (e:=evA x a) b82 (hnew (X.drew.alloc zEv) zEv) (hold zEv (hnew X.drew zEv)) (by omega) (by omega) fun V83 p83 q83 b83=>?_;have y84:=b83.size;refine zaS (P:=X.drew.heap.size) (Q:=(X.drew.alloc zEv).heap.size) (e:=evA x d) b83 (q83) (p83) (by omega) (by omega) fun V84 p84 q84 b84=>?_;exact⟨((X.drew.alloc zEv).heap.size,X.drew.heap.size),⟨.cons rfl (.cons rfl (.cons rfl (.cons rfl (.cons rfl (.cons rfl (.cons rfl (.cons rfl (.cons rfl (.nil))))))))),rfl⟩,q84,p84,b84⟩
 rintro⟨P,Q⟩ Y ⟨fE,fF,hbY⟩;dsimp only at fE fF ⊢;replace fX:=zaa hbY fX;replace hbX:=zst hbX hbY;clear hbY;clear X;obtain⟨atomic,hA⟩:∃ v,v=(zfQ x a||zfQ x d):=⟨_,rfl⟩;refine⟨Unit,fun _=>⟨[(0,u8 m),(2,i64 (a:Nat)),(3,i64 (d:Nat)),(4,.bool full),(5,.bool loads),(6,.bool stores),(8,At0 L),(15,At0 P),(16,At0 Q),(17,.bool atomic)],[]⟩,fun _ Z=>ExH Z L x q c/\EvB Z P (evA x a)/\EvB Z Q (evA x d)/\Bw w Z,?_,?_⟩
 ·refine⟨_,zat _ _ _,zab fX,hlt fX,?_⟩;refine cmo (zkK (a:=a) (hv.below hbX) (by omega)) ?_;rintro e U ⟨rfl,hbU⟩;have fX:=zaa hbU fX;have fE:=zaa hbU fE;have fF:=zaa hbU fF;replace hbX:=zst hbX hbU;refine biE (fun h1=>?_) fun h1=>?_
  ·have e5:true=atomic:=by rw [hA];simp [h1]
   exact⟨(),⟨.cons rfl (.cons rfl (.cons rfl (.cons rfl (.cons rfl (.cons rfl (.cons rfl (.cons rfl (.cons rfl (.cons (by rw [<- e5];rfl) .nil))))))))),rfl⟩,fX,fE,fF,hbX⟩
  ·refine⟨_,zat _ _ _,zab fX,hlt fX,?_⟩;refine cmo (zkK (a:=d) (hv.below hbX) (by omega)) ?_;rintro e U ⟨rfl,hbU⟩;have fX:=zaa hbU fX;have fE:=zaa hbU fE;have fF:=zaa hbU fF;replace hbX:=zst hbX hbU;have e5:zfQ x d=atomic:=by rw [hA];simp [h1]
   exact⟨(),⟨.cons rfl (.cons rfl (.cons rfl (.cons rfl (.cons rfl (.cons rfl (.cons rfl (.cons rfl (.cons rfl (.cons (by rw [<- e5];rfl) .nil))))))))),rfl⟩,fX,fE,fF,hbX⟩
 clear fX fE fF hbX;rintro _ X ⟨fX,fE,fF,hbX⟩;obtain⟨tso,hT⟩:∃ v,v=(!(isW x a&&isR x d)||(full||atomic)):=⟨_,rfl⟩;refine⟨Unit,fun _=>⟨[(0,u8 m),(2,i64 (a:Nat)),(3,i64 (d:Nat)),(4,.bool full),(5,.bool loads),(6,.bool stores),(8,At0 L),(15,At0 P),(16,At0 Q),(17,.bool atomic),(18,.bool tso)],[]⟩,fun _ Z=>ExH Z L x q c/\EvB Z P (evA x a)/\EvB Z Q (evA x d)/\Bw w Z,?_,?_⟩
 ·refine⟨_,zbz fE,?_⟩;refine biE (fun h1=>?_) fun h1=>?_
  ·have h1:=zaM.symm.trans h1;refine⟨_,zbz fF,?_⟩;refine biE (fun h2=>?_) fun h2=>?_
   ·have h2:=zbp.symm.trans (notB h2);refine brT ?_;have e5:true=tso:=(by rw [hT];simp [isW,isR,h1,h2]);exact⟨(),⟨.cons rfl (.cons rfl (.cons rfl (.cons rfl (.cons rfl (.cons rfl (.cons rfl (.cons rfl (.cons rfl (.cons rfl (.cons (by rw [<- e5];rfl) .nil)))))))))),rfl⟩,fX,fE,fF,hbX⟩
   ·have h2:=zbp.symm.trans (notF h2);refine biE (fun h3=>?_) fun h3=>?_
    ·have e5:true=tso:=(by rw [hT];simp [isW,isR,h1,h2,h3]);exact⟨(),⟨.cons rfl (.cons rfl (.cons rfl (.cons rfl (.cons rfl (.cons rfl (.cons rfl (.cons rfl (.cons rfl (.cons rfl (.cons (by rw [<- e5];rfl) .nil)))))))))),rfl⟩,fX,fE,fF,hbX⟩
    ·have e5:atomic=tso:=(by rw [hT];simp [isW,isR,h1,h2,h3]);exact⟨(),⟨.cons rfl (.cons rfl (.cons rfl (.cons rfl (.cons rfl (.cons rfl (.cons rfl (.cons rfl (.cons rfl (.cons rfl (.cons (by rw [<- e5];rfl) .nil)))))))))),rfl⟩,fX,fE,fF,hbX⟩
  ·have h1:=zaM.symm.trans h1;refine brT ?_;refine brT ?_;have e5:true=tso:=by rw [hT];simp [isW,isR,h1]
   exact⟨(),⟨.cons rfl (.cons rfl (.cons rfl (.cons rfl (.cons rfl (.cons rfl (.cons rfl (.cons rfl (.cons rfl (.cons rfl (.cons (by rw [<- e5];rfl) .nil)))))))))),rfl⟩,fX,fE,fF,hbX⟩
 clear fX fE fF hbX;rintro _ X ⟨fX,fE,fF,hbX⟩;refine biE (fun n2=>?_) fun n2=>?_
 ·have n2:decide (m=2)=true:=(za4 (x:=m) (y:=2)).symm.trans n2;obtain rfl:m=2:=dT n2;exact⟨rfl,hbX⟩
 ·have n2:decide (m=2)=false:=(za4 (x:=m) (y:=2)).symm.trans n2;refine biE (fun n3=>?_) fun n3=>?_
  ·have n3:decide (m=3)=true:=(za4 (x:=m) (y:=3)).symm.trans n3;obtain rfl:m=3:=dT n3;exact⟨rb (by show _=zau 3 x a d full loads stores;rw [hT,hA];rfl),hbX⟩
  ·have n3:decide (m=3)=false:=(za4 (x:=m) (y:=3)).symm.trans n3;refine biE (fun n4=>?_) fun n4=>?_
   ·have n4:decide (m=4)=true:=(za4 (x:=m) (y:=4)).symm.trans n4;obtain rfl:m=4:=dT n4;refine⟨_,zbz fE,?_⟩;refine biE (fun h1=>?_) fun h1=>?_
    ·have h1:=zaM.symm.trans h1;refine⟨_,zbz fF,?_⟩;refine biE (fun h2=>?_) fun h2=>?_
     ·have h2:=zaM.symm.trans h2;refine⟨_,znF fE,?_⟩;refine⟨_,znF fF,?_⟩;refine biE (fun h21=>?_) fun h21=>?_
      ·have h21:=za4.symm.trans h21;refine brT ?_;refine brT ?_;exact⟨rb (by show _=zau 4 x a d full loads stores;simp [zau,isW,isR,hT,hA,h1,h2,h21]),hbX⟩
      ·have h21:=za4.symm.trans h21;refine biE (fun h22=>?_) fun h22=>?_
       ·refine brT ?_;exact⟨rb (by show _=zau 4 x a d full loads stores;simp [zau,isW,isR,hT,hA,h1,h2,h21,h22]),hbX⟩
       ·refine biE (fun h23=>?_) fun h23=>?_
        ·exact⟨rb (by show _=zau 4 x a d full loads stores;simp [zau,isW,isR,hT,hA,h1,h2,h21,h22,h23]),hbX⟩
        ·exact⟨rb (by show _=zau 4 x a d full loads stores;simp [zau,isW,isR,hT,hA,h1,h2,h21,h22,h23]),hbX⟩
     ·have h2:=zaM.symm.trans h2;exact⟨rb (by show _=zau 4 x a d full loads stores;simp [zau,isW,isR,hT,hA,h1,h2]),hbX⟩
    ·have h1:=zaM.symm.trans h1;refine brF ?_;exact⟨rb (by show _=zau 4 x a d full loads stores;simp [zau,isW,isR,hT,hA,h1]),hbX⟩
   ·have n4:decide (m=4)=false:=(za4 (x:=m) (y:=4)).symm.trans n4;refine biE (fun n5=>?_) fun n5=>?_
    ·have n5:decide (m=5)=true:=(za4 (x:=m) (y:=5)).symm.trans n5;obtain rfl:m=5:=dT n5;refine⟨_,zbz fE,?_⟩;refine biE (fun h21=>?_) fun h21=>?_
     ·have h21:=zbp.symm.trans h21;refine⟨_,zlM fE,?_⟩;refine biE (fun h22=>?_) fun h22=>?_
      ·have h22:=zbp.symm.trans h22;refine brT ?_;refine brT ?_;refine brT ?_;refine brT ?_;exact⟨rb (by show _=zau 5 x a d full loads stores;simp [zau,isW,isR,hT,hA,h21,h22]),hbX⟩
      ·have h22:=zbp.symm.trans h22;refine⟨_,zlM fE,?_⟩;refine biE (fun h23=>?_) fun h23=>?_
       ·have h23:=zdE.symm.trans h23;refine brT ?_;refine brT ?_;refine brT ?_;exact⟨rb (by show _=zau 5 x a d full loads stores;simp [zau,isW,isR,hT,hA,h21,h22,h23]),hbX⟩
       ·have h23:=zdE.symm.trans h23;refine⟨_,zbz fF,?_⟩;refine biE (fun h24=>?_) fun h24=>?_
        ·have h24:=zaM.symm.trans h24;refine⟨_,zlM fF,?_⟩;refine biE (fun h25=>?_) fun h25=>?_
         ·have h25:=zaM.symm.trans h25;refine brT ?_;refine brT ?_;refine brT ?_;exact⟨rb (by show _=zau 5 x a d full loads stores;simp [zau,isW,isR,hT,hA,h21,h22,h23,h24,h25]),hbX⟩
         ·have h25:=zaM.symm.trans h25;refine⟨_,zlM fF,?_⟩;refine biE (fun h26=>?_) fun h26=>?_
          ·have h26:=zdE.symm.trans h26;refine brT ?_;refine brT ?_;exact⟨rb (by show _=zau 5 x a d full loads stores;simp [zau,isW,isR,hT,hA,h21,h22,h23,h24,h25,h26]),hbX⟩
          ·have h26:=zdE.symm.trans h26;refine biE (fun h27=>?_) fun h27=>?_
           ·refine brT ?_;exact⟨rb (by show _=zau 5 x a d full loads stores;simp [zau,isW,isR,hT,hA,h21,h22,h23,h24,h25,h26,h27]),hbX⟩
           ·refine⟨_,zbz fE,?_⟩;refine biE (fun h28=>?_) fun h28=>?_
            ·have h28:=zbp.symm.trans h28;refine biE (fun h29=>?_) fun h29=>?_
             ·exact⟨rb (by show _=zau 5 x a d full loads stores;simp [zau,isW,isR,hT,hA,h21,h22,h23,h24,h25,h26,h27,h28,h29]),hbX⟩
             ·refine⟨_,zbz fF,?_⟩;refine biE (fun h30=>?_) fun h30=>?_
              ·have h30:=zaM.symm.trans h30;exact⟨rb (by show _=zau 5 x a d full loads stores;simp [zau,isW,isR,hT,hA,h21,h22,h23,h24,h25,h26,h27,h28,h29,h30]),hbX⟩
              ·have h30:=zaM.symm.trans h30
               cases h24.symm.trans h30
            ·have h28:=zbp.symm.trans h28
             cases h21.symm.trans h28
        ·have h24:=zaM.symm.trans h24;refine brF ?_;refine biE (fun h31=>?_) fun h31=>?_
         ·refine brT ?_;exact⟨rb (by show _=zau 5 x a d full loads stores;simp [zau,isW,isR,hT,hA,h21,h22,h23,h24,h31]),hbX⟩
         ·refine⟨_,zbz fE,?_⟩;refine biE (fun h32=>?_) fun h32=>?_
          ·have h32:=zbp.symm.trans h32;refine biE (fun h33=>?_) fun h33=>?_
           ·exact⟨rb (by show _=zau 5 x a d full loads stores;simp [zau,isW,isR,hT,hA,h21,h22,h23,h24,h31,h32,h33]),hbX⟩
           ·refine⟨_,zbz fF,?_⟩;refine biE (fun h34=>?_) fun h34=>?_
            ·have h34:=zaM.symm.trans h34
             cases h24.symm.trans h34
            ·have h34:=zaM.symm.trans h34;exact⟨rb (by show _=zau 5 x a d full loads stores;simp [zau,isW,isR,hT,hA,h21,h22,h23,h24,h31,h32,h33,h34]),hbX⟩
          ·have h32:=zbp.symm.trans h32
           cases h21.symm.trans h32
     ·have h21:=zbp.symm.trans h21;refine brF ?_;refine⟨_,zbz fF,?_⟩;refine biE (fun h35=>?_) fun h35=>?_
      ·have h35:=zaM.symm.trans h35;refine⟨_,zlM fF,?_⟩;refine biE (fun h36=>?_) fun h36=>?_
       ·have h36:=zaM.symm.trans h36;refine brT ?_;refine brT ?_;refine brT ?_;exact⟨rb (by show _=zau 5 x a d full loads stores;simp [zau,isW,isR,hT,hA,h21,h35,h36]),hbX⟩
       ·have h36:=zaM.symm.trans h36;refine⟨_,zlM fF,?_⟩;refine biE (fun h37=>?_) fun h37=>?_
        ·have h37:=zdE.symm.trans h37;refine brT ?_;refine brT ?_;exact⟨rb (by show _=zau 5 x a d full loads stores;simp [zau,isW,isR,hT,hA,h21,h35,h36,h37]),hbX⟩
        ·have h37:=zdE.symm.trans h37;refine biE (fun h38=>?_) fun h38=>?_
         ·refine brT ?_;exact⟨rb (by show _=zau 5 x a d full loads stores;simp [zau,isW,isR,hT,hA,h21,h35,h36,h37,h38]),hbX⟩
         ·refine⟨_,zbz fE,?_⟩;refine biE (fun h39=>?_) fun h39=>?_
          ·have h39:=zbp.symm.trans h39
           cases h21.symm.trans h39
          ·have h39:=zbp.symm.trans h39;refine brF ?_;refine⟨_,zbz fF,?_⟩;refine biE (fun h40=>?_) fun h40=>?_
           ·have h40:=zaM.symm.trans h40;exact⟨rb (by show _=zau 5 x a d full loads stores;simp [zau,isW,isR,hT,hA,h21,h35,h36,h37,h38,h39,h40]),hbX⟩
           ·have h40:=zaM.symm.trans h40
            cases h35.symm.trans h40
      ·have h35:=zaM.symm.trans h35;refine brF ?_;refine biE (fun h41=>?_) fun h41=>?_
       ·refine brT ?_;exact⟨rb (by show _=zau 5 x a d full loads stores;simp [zau,isW,isR,hT,hA,h21,h35,h41]),hbX⟩
       ·refine⟨_,zbz fE,?_⟩;refine biE (fun h42=>?_) fun h42=>?_
        ·have h42:=zbp.symm.trans h42
         cases h21.symm.trans h42
        ·have h42:=zbp.symm.trans h42;refine brF ?_;refine⟨_,zbz fF,?_⟩;refine biE (fun h43=>?_) fun h43=>?_
         ·have h43:=zaM.symm.trans h43
          cases h35.symm.trans h43
         ·have h43:=zaM.symm.trans h43;exact⟨rb (by show _=zau 5 x a d full loads stores;simp [zau,isW,isR,hT,hA,h21,h35,h41,h42,h43]),hbX⟩
    ·have n5:decide (m=5)=false:=(za4 (x:=m) (y:=5)).symm.trans n5;refine biE (fun n6=>?_) fun n6=>?_
     ·have n6:decide (m=6)=true:=(za4 (x:=m) (y:=6)).symm.trans n6;obtain rfl:m=6:=dT n6;refine⟨_,zad _,r_dt fX,hlt fX,?_⟩;refine cmo (zaX hv.dt (by omega) (by omega)) ?_;rintro e U ⟨rfl,hbU⟩;have fX:=zaa hbU fX;have fE:=zaa hbU fE;have fF:=zaa hbU fF;replace hbX:=zst hbX hbU;refine biE (fun h21=>?_) fun h21=>?_
      ·refine brT ?_;refine brT ?_;refine brT ?_;refine brT ?_;exact⟨rb (by show _=zau 6 x a d full loads stores;simp [zau,isW,isR,hT,hA,h21]),hbX⟩
      ·refine⟨_,zbz fF,?_⟩;refine biE (fun h22=>?_) fun h22=>?_
       ·have h22:=zaM.symm.trans h22;refine⟨_,zad _,r_ct fX,hlt fX,?_⟩;refine cmo (zaX hv.ct (by omega) (by omega)) ?_;rintro e U ⟨rfl,hbU⟩;have fX:=zaa hbU fX;have fE:=zaa hbU fE;have fF:=zaa hbU fF;replace hbX:=zst hbX hbU;refine biE (fun h23=>?_) fun h23=>?_
        ·refine brT ?_;refine brT ?_;refine brT ?_;exact⟨rb (by show _=zau 6 x a d full loads stores;simp [zau,isW,isR,hT,hA,h21,h22,h23]),hbX⟩
        ·refine biE (fun h24=>?_) fun h24=>?_
         ·refine brT ?_;refine brT ?_;exact⟨rb (by show _=zau 6 x a d full loads stores;simp [zau,isW,isR,hT,hA,h21,h22,h23,h24]),hbX⟩
         ·refine⟨_,zbz fE,?_⟩;refine biE (fun h25=>?_) fun h25=>?_
          ·have h25:=zbp.symm.trans h25;refine⟨_,zbz fF,?_⟩;refine biE (fun h26=>?_) fun h26=>?_
           ·have h26:=zbp.symm.trans h26;refine biE (fun h27=>?_) fun h27=>?_
            ·refine brT ?_;exact⟨rb (by show _=zau 6 x a d full loads stores;simp [zau,isW,isR,hT,hA,h21,h22,h23,h24,h25,h26,h27]),hbX⟩
            ·refine⟨_,zbz fE,?_⟩;refine biE (fun h28=>?_) fun h28=>?_
             ·have h28:=zaM.symm.trans h28;refine⟨_,zbz fF,?_⟩;refine biE (fun h29=>?_) fun h29=>?_
              ·have h29:=zaM.symm.trans h29;refine biE (fun h30=>?_) fun h30=>?_
               ·exact⟨rb (by show _=zau 6 x a d full loads stores;simp [zau,isW,isR,hT,hA,h21,h22,h23,h24,h25,h26,h27,h28,h29,h30]),hbX⟩
               ·refine⟨_,zad _,r_rm fX,hlt fX,?_⟩;refine cmo (zaX hv.rm (by omega) (by omega)) ?_;rintro e U ⟨rfl,hbU⟩;have fX:=zaa hbU fX;have fE:=zaa hbU fE;have fF:=zaa hbU fF;replace hbX:=zst hbX hbU;exact⟨rb (by show _=zau 6 x a d full loads stores;simp [zau,isW,isR,hT,hA,h21,h22,h23,h24,h25,h26,h27,h28,h29,h30]),hbX⟩
              ·have h29:=zaM.symm.trans h29
               cases h22.symm.trans h29
             ·have h28:=zaM.symm.trans h28;refine brF ?_;refine brF ?_;refine⟨_,zad _,r_rm fX,hlt fX,?_⟩;refine cmo (zaX hv.rm (by omega) (by omega)) ?_;rintro e U ⟨rfl,hbU⟩;have fX:=zaa hbU fX;have fE:=zaa hbU fE;have fF:=zaa hbU fF;replace hbX:=zst hbX hbU;exact⟨rb (by show _=zau 6 x a d full loads stores;simp [zau,isW,isR,hT,hA,h21,h22,h23,h24,h25,h26,h27,h28]),hbX⟩
           ·have h26:=zbp.symm.trans h26;refine brF ?_;refine⟨_,zbz fE,?_⟩;refine biE (fun h31=>?_) fun h31=>?_
            ·have h31:=zaM.symm.trans h31;refine⟨_,zbz fF,?_⟩;refine biE (fun h32=>?_) fun h32=>?_
             ·have h32:=zaM.symm.trans h32;refine biE (fun h33=>?_) fun h33=>?_
              ·exact⟨rb (by show _=zau 6 x a d full loads stores;simp [zau,isW,isR,hT,hA,h21,h22,h23,h24,h25,h26,h31,h32,h33]),hbX⟩
              ·refine⟨_,zad _,r_rm fX,hlt fX,?_⟩;refine cmo (zaX hv.rm (by omega) (by omega)) ?_;rintro e U ⟨rfl,hbU⟩;have fX:=zaa hbU fX;have fE:=zaa hbU fE;have fF:=zaa hbU fF;replace hbX:=zst hbX hbU;exact⟨rb (by show _=zau 6 x a d full loads stores;simp [zau,isW,isR,hT,hA,h21,h22,h23,h24,h25,h26,h31,h32,h33]),hbX⟩
             ·have h32:=zaM.symm.trans h32
              cases h22.symm.trans h32
            ·have h31:=zaM.symm.trans h31;refine brF ?_;refine brF ?_;refine⟨_,zad _,r_rm fX,hlt fX,?_⟩;refine cmo (zaX hv.rm (by omega) (by omega)) ?_;rintro e U ⟨rfl,hbU⟩;have fX:=zaa hbU fX;have fE:=zaa hbU fE;have fF:=zaa hbU fF;replace hbX:=zst hbX hbU;exact⟨rb (by show _=zau 6 x a d full loads stores;simp [zau,isW,isR,hT,hA,h21,h22,h23,h24,h25,h26,h31]),hbX⟩
          ·have h25:=zbp.symm.trans h25;refine brF ?_;refine brF ?_;refine⟨_,zbz fE,?_⟩;refine biE (fun h34=>?_) fun h34=>?_
           ·have h34:=zaM.symm.trans h34;refine⟨_,zbz fF,?_⟩;refine biE (fun h35=>?_) fun h35=>?_
            ·have h35:=zaM.symm.trans h35;refine biE (fun h36=>?_) fun h36=>?_
             ·exact⟨rb (by show _=zau 6 x a d full loads stores;simp [zau,isW,isR,hT,hA,h21,h22,h23,h24,h25,h34,h35,h36]),hbX⟩
             ·refine⟨_,zad _,r_rm fX,hlt fX,?_⟩;refine cmo (zaX hv.rm (by omega) (by omega)) ?_;rintro e U ⟨rfl,hbU⟩;have fX:=zaa hbU fX;have fE:=zaa hbU fE;have fF:=zaa hbU fF;replace hbX:=zst hbX hbU;exact⟨rb (by show _=zau 6 x a d full loads stores;simp [zau,isW,isR,hT,hA,h21,h22,h23,h24,h25,h34,h35,h36]),hbX⟩
            ·have h35:=zaM.symm.trans h35
             cases h22.symm.trans h35
           ·have h34:=zaM.symm.trans h34;refine brF ?_;refine brF ?_;refine⟨_,zad _,r_rm fX,hlt fX,?_⟩;refine cmo (zaX hv.rm (by omega) (by omega)) ?_;rintro e U ⟨rfl,hbU⟩;have fX:=zaa hbU fX;have fE:=zaa hbU fE;have fF:=zaa hbU fF;replace hbX:=zst hbX hbU;exact⟨rb (by show _=zau 6 x a d full loads stores;simp [zau,isW,isR,hT,hA,h21,h22,h23,h24,h25,h34]),hbX⟩
       ·have h22:=zaM.symm.trans h22;refine brF ?_;refine biE (fun h37=>?_) fun h37=>?_
        ·refine brT ?_;refine brT ?_;exact⟨rb (by show _=zau 6 x a d full loads stores;simp [zau,isW,isR,hT,hA,h21,h22,h37]),hbX⟩
        ·refine⟨_,zbz fE,?_⟩;refine biE (fun h38=>?_) fun h38=>?_
         ·have h38:=zbp.symm.trans h38;refine⟨_,zbz fF,?_⟩;refine biE (fun h39=>?_) fun h39=>?_
          ·have h39:=zbp.symm.trans h39;refine biE (fun h40=>?_) fun h40=>?_
           ·refine brT ?_;exact⟨rb (by show _=zau 6 x a d full loads stores;simp [zau,isW,isR,hT,hA,h21,h22,h37,h38,h39,h40]),hbX⟩
           ·refine⟨_,zbz fE,?_⟩;refine biE (fun h41=>?_) fun h41=>?_
            ·have h41:=zaM.symm.trans h41;refine⟨_,zbz fF,?_⟩;refine biE (fun h42=>?_) fun h42=>?_
             ·have h42:=zaM.symm.trans h42
              cases h22.symm.trans h42
             ·have h42:=zaM.symm.trans h42;refine brF ?_;refine⟨_,zad _,r_rm fX,hlt fX,?_⟩;refine cmo (zaX hv.rm (by omega) (by omega)) ?_;rintro e U ⟨rfl,hbU⟩;have fX:=zaa hbU fX;have fE:=zaa hbU fE;have fF:=zaa hbU fF;replace hbX:=zst hbX hbU;exact⟨rb (by show _=zau 6 x a d full loads stores;simp [zau,isW,isR,hT,hA,h21,h22,h37,h38,h39,h40,h41,h42]),hbX⟩
            ·have h41:=zaM.symm.trans h41;refine brF ?_;refine brF ?_;refine⟨_,zad _,r_rm fX,hlt fX,?_⟩;refine cmo (zaX hv.rm (by omega) (by omega)) ?_;rintro e U ⟨rfl,hbU⟩;have fX:=zaa hbU fX;have fE:=zaa hbU fE;have fF:=zaa hbU fF;replace hbX:=zst hbX hbU;exact⟨rb (by show _=zau 6 x a d full loads stores;simp [zau,isW,isR,hT,hA,h21,h22,h37,h38,h39,h40,h41]),hbX⟩
          ·have h39:=zbp.symm.trans h39;refine brF ?_;refine⟨_,zbz fE,?_⟩;refine biE (fun h43=>?_) fun h43=>?_
           ·have h43:=zaM.symm.trans h43;refine⟨_,zbz fF,?_⟩;refine biE (fun h44=>?_) fun h44=>?_
            ·have h44:=zaM.symm.trans h44
             cases h22.symm.trans h44
            ·have h44:=zaM.symm.trans h44;refine brF ?_;refine⟨_,zad _,r_rm fX,hlt fX,?_⟩;refine cmo (zaX hv.rm (by omega) (by omega)) ?_;rintro e U ⟨rfl,hbU⟩;have fX:=zaa hbU fX;have fE:=zaa hbU fE;have fF:=zaa hbU fF;replace hbX:=zst hbX hbU;exact⟨rb (by show _=zau 6 x a d full loads stores;simp [zau,isW,isR,hT,hA,h21,h22,h37,h38,h39,h43,h44]),hbX⟩
           ·have h43:=zaM.symm.trans h43;refine brF ?_;refine brF ?_;refine⟨_,zad _,r_rm fX,hlt fX,?_⟩;refine cmo (zaX hv.rm (by omega) (by omega)) ?_;rintro e U ⟨rfl,hbU⟩;have fX:=zaa hbU fX;have fE:=zaa hbU fE;have fF:=zaa hbU fF;replace hbX:=zst hbX hbU;exact⟨rb (by show _=zau 6 x a d full loads stores;simp [zau,isW,isR,hT,hA,h21,h22,h37,h38,h39,h43]),hbX⟩
         ·have h38:=zbp.symm.trans h38;refine brF ?_;refine brF ?_;refine⟨_,zbz fE,?_⟩;refine biE (fun h45=>?_) fun h45=>?_
          ·have h45:=zaM.symm.trans h45;refine⟨_,zbz fF,?_⟩;refine biE (fun h46=>?_) fun h46=>?_
           ·have h46:=zaM.symm.trans h46
            cases h22.symm.trans h46
           ·have h46:=zaM.symm.trans h46;refine brF ?_;refine⟨_,zad _,r_rm fX,hlt fX,?_⟩;refine cmo (zaX hv.rm (by omega) (by omega)) ?_;rintro e U ⟨rfl,hbU⟩;have fX:=zaa hbU fX;have fE:=zaa hbU fE;have fF:=zaa hbU fF;replace hbX:=zst hbX hbU;exact⟨rb (by show _=zau 6 x a d full loads stores;simp [zau,isW,isR,hT,hA,h21,h22,h37,h38,h45,h46]),hbX⟩
          ·have h45:=zaM.symm.trans h45;refine brF ?_;refine brF ?_;refine⟨_,zad _,r_rm fX,hlt fX,?_⟩;refine cmo (zaX hv.rm (by omega) (by omega)) ?_;rintro e U ⟨rfl,hbU⟩;have fX:=zaa hbU fX;have fE:=zaa hbU fE;have fF:=zaa hbU fF;replace hbX:=zst hbX hbU;exact⟨rb (by show _=zau 6 x a d full loads stores;simp [zau,isW,isR,hT,hA,h21,h22,h37,h38,h45]),hbX⟩
     ·have n6:decide (m=6)=false:=(za4 (x:=m) (y:=6)).symm.trans n6;rw [zne (m:=m) (x:=x) (a:=a) (d:=d) (f:=full) (l:=loads) (s:=stores) fun k k1 k2 e=>by
       rcases (by omega:k=2\/k=3\/k=4\/k=5\/k=6) with rfl | rfl | rfl | rfl | rfl
       ·exact dF n2 (UInt8.toNat_inj.1 e)
       ·exact dF n3 (UInt8.toNat_inj.1 e)
       ·exact dF n4 (UInt8.toNat_inj.1 e)
       ·exact dF n5 (UInt8.toNat_inj.1 e)
       ·exact dF n6 (UInt8.toNat_inj.1 e)]
      exact⟨rfl,hbX⟩
end
abbrev zRq:Obj := .cells zt27.toArray 27
theorem zoJ {S:Sig} {all:List Oper} {X:List Nat} {QP:List PanicEntry->World->Prop} {x y:OT} {E:Env} {w:World} {K:Env->World->Prop} (h1:opsT S all X QP x E w K) (h2:opsT S all X QP y E w K):opsT S all X QP (.alt x y) E w K:=⟨h1,h2⟩
theorem zn6 {X W:World} (b:Bw X W):RelH (W.alloc zRq) W.heap.size zam:=hnew W zRq
theorem ztc {X W:World} {M P Q S:Nat} {A B C:RelD} (b:Bw X W) (hM:M<X.heap.size) (fP:RelH W P zam) (fQ:RelH W Q zam) (fS:RelH W S zam) (h1:P≠Q) (h2:P≠S) (h3:Q≠S) (p:X.heap.size<=P) (q:X.heap.size<=Q) (s:X.heap.size<=S) {K:World->Prop}
  (kont:∀ Y,((M<P/\M<Q/\M<S/\P≠Q/\P≠S/\Q≠S)/\RelH Y P A/\RelH Y Q B/\RelH Y S C/\Bw X Y)->K Y) :
  SatR ((storeVar 27 ⟨P,0,none⟩ (.agg (relC A).toArray)).run Tryz.prog W) fun _ w1=>SatR ((storeVar 27 ⟨Q,0,none⟩ (.agg (relC B).toArray)).run Tryz.prog w1) fun _ w2=>SatR ((storeVar 27 ⟨S,0,none⟩ (.agg (relC C).toArray)).run Tryz.prog w2) fun _ w3=>K w3 :=
 zcb fP p b fun Y1 f1 o1 b1=>zcb ((o1 Q (fun h=>h1 h.symm)).trans fQ) q b1 fun Y2 f2 o2 b2=>zcb ((o2 S (fun h=>h3 h.symm)).trans ((o1 S (fun h=>h2 h.symm)).trans fS)) s b2 fun Y3 f3 o3 b3 =>
  kont Y3 ⟨⟨by omega,by omega,by omega,h1,h2,h3⟩,(o3 P h2).trans ((o2 P h1).trans f1),(o3 Q h3).trans f2,f3,b3⟩
section
variable {w:World} {c:Nat} {x:ExD} {q:Option Addr}
theorem zpm {m:UInt8} (hv:ExV w x q):CB 26 #[u8 m,.agg (exC x q c).toArray] w (.agg (relC (ze4 m.toNat x)).toArray):=by
 refine cofM 80 [u8 m,.agg (exC x q c).toArray] (.c .p (.c .p (.c .p (.c .p (.c .p .p))))) Tryz.func26 ?_;obtain⟨L,hL⟩:=nm (w.heap.size);have h16:=hv.n;obtain⟨n,hnn⟩:=nm (x.ev.length);refine⟨Unit,fun _=>⟨[(0,u8 m),(3,At0 L),(4,At0 (L+1))],[]⟩,fun _ X=>ExH X L x q c/\RelH X (L+1) zam/\Bw w X,?_,?_⟩
 ·obtain⟨h1,h2,h3,h4⟩:=zd2 w x q c zam 27;have s1:=wz w (.cells (exC x q c).toArray 34);exact⟨(),⟨.cons (rfl) (.cons (by rw [hL];rfl) (.cons (by rw [hL,<- s1];rfl) (.nil))),rfl⟩,by rw [hL];exact h1,by rw [hL];exact h2,h4⟩
 rintro _ X ⟨fX,f0,hbX⟩;refine⟨Nat×Nat×Nat,fun s=>⟨[(0,u8 m),(3,At0 L),(4,At0 (L+1)),(5,At0 s.1),(6,At0 s.2.1),(7,At0 s.2.2)],[]⟩,fun s Z=>(L+1<s.1/\L+1<s.2.1/\L+1<s.2.2/\s.1≠s.2.1/\s.1≠s.2.2/\s.2.1≠s.2.2)/\RelH Z s.1 (zaT x 3)/\RelH Z s.2.1 (zaT x 4)/\RelH Z s.2.2 (zaT x 5)/\Bw X Z,?_,?_⟩
 ·have b0:Bw X X.drew:=(Below.refl _ _).drew;have y0:=b0.size;have hl0:=hlt f0;have fen:∀ (md:UInt8) {W:World},Bw X W->CB 29 #[.agg (exC x q c).toArray,u8 md] W (.agg (relC (zaT x md)).toArray):=fun md {W} hW=>zlY (hv.below ((zst hbX hW)));have ld:∀ {W:World},Bw X W->zax W ⟨L,0,none⟩ (exC x q c)/\L<W.heap.size:=fun {W} hW=>⟨zab (zaa hW fX),hlt (zaa hW fX)⟩;refine DrawE.treeQ [9,10,11] (.op 0 (.op 2 (.op 4 (.alt (.op 6 (.alt (.op 7 (.alt (.op 8 (.op 1 (.op 3 (.op 5 (.op 9 (.op 10 (.op 11 .nil))))))) (.op 1 (.alt (.op 8 (.op 3 (.op 5 (.op 9 (.op 10 (.op 11 .nil)))))) (.op 3 (.alt (.op 8 (.op 5 (.op 9 (.op 10 (.op 11 .nil))))) (.op 5 (.op 8 (.op 9 (.op 10 (.op 11 .nil))))))))))) (.alt (.op 8 (.alt (.op 7 (.op 1 (.op 3 (.op 5 (.op 9 (.op 10 (.op 11 .nil))))))) (.op 1 (.alt (.op 7 (.op 3 (.op 5 (.op 9 (.op 10 (.op 11 .nil)))))) (.op 3 (.alt (.op 7 (.op 5 (.op 9 (.op 10 (.op 11 .nil))))) (.op 5 (.op 7 (.op 9 (.op 10 (.op 11 .nil))))))))))) (.op 1 (.alt (.op 7 (.alt (.op 8 (.op 3 (.op 5 (.op 9 (.op 10 (.op 11 .nil)))))) (.op 3 (.alt (.op 8 (.op 5 (.op 9 (.op 10 (.op 11 .nil))))) (.op 5 (.op 8 (.op 9 (.op 10 (.op 11 .nil))))))))) (.alt (.op 8 (.alt (.op 7 (.op 3 (.op 5 (.op 9 (.op 10 (.op 11 .nil)))))) (.op 3 (.alt (.op 7 (.op 5 (.op 9 (.op 10 (.op 11 .nil))))) (.op 5 (.op 7 (.op 9 (.op 10 (.op 11 .nil))))))))) (.op 3 (.alt (.op 7 (.alt (.op 8 (.op 5 (.op 9 (.op 10 (.op 11 .nil))))) (.op 5 (.op 8 (.op 9 (.op 10 (.op 11 .nil))))))) (.alt (.op 8 (.alt (.op 7 (.op 5 (.op 9 (.op 10 (.op 11 .nil))))) (.op 5 (.op 7 (.op 9 (.op 10 (.op 11 .nil))))))) (.op 5 (.alt (.op 7 (.op 8 (.op 9 (.op 10 (.op 11 .nil))))) (.op 8 (.op 7 (.op 9 (.op 10 (.op 11 .nil)))))))))))))))) (.alt (.op 7 (.alt (.op 6 (.alt (.op 8 (.op 1 (.op 3 (.op 5 (.op 9 (.op 10 (.op 11 .nil))))))) (.op 1 (.alt (.op 8 (.op 3 (.op 5 (.op 9 (.op 10 (.op 11 .nil)))))) (.op 3 (.alt (.op 8 (.op 5 (.op 9 (.op 10 (.op 11 .nil))))) (.op 5 (.op 8 (.op 9 (.op 10 (.op 11 .nil))))))))))) (.alt (.op 8 (.alt (.op 6 (.op 1 (.op 3 (.op 5 (.op 9 (.op 10 (.op 11 .nil))))))) (.op 1 (.alt (.op 6 (.op 3 (.op 5 (.op 9 (.op 10 (.op 11 .nil)))))) (.op 3 (.alt (.op 6 (.op 5 (.op 9 (.op 10 (.op 11 .nil))))) (.op 5 (.op 6 (.op 9 (.op 10 (.op 11 .nil))))))))))) (.op 1 (.alt (.op 6 (.alt (.op 8 (.op 3 (.op 5 (.op 9 (.op 10 (.op 11 .nil)))))) (.op 3 (.alt (.op 8 (.op 5 (.op 9 (.op 10 (.op 11 .nil))))) (.op 5 (.op 8 (.op 9 (.op 10 (.op 11 .nil))))))))) (.alt (.op 8 (.alt (.op 6 (.op 3 (.op 5 (.op 9 (.op 10 (.op 11 .nil)))))) (.op 3 (.alt (.op 6 (.op 5 (.op 9 (.op 10 (.op 11 .nil))))) (.op 5 (.op 6 (.op 9 (.op 10 (.op 11 .nil))))))))) (.op 3 (.alt (.op 6 (.alt (.op 8 (.op 5 (.op 9 (.op 10 (.op 11 .nil))))) (.op 5 (.op 8 (.op 9 (.op 10 (.op 11 .nil))))))) (.alt (.op 8 (.alt (.op 6 (.op 5 (.op 9 (.op 10 (.op 11 .nil))))) (.op 5 (.op 6 (.op 9 (.op 10 (.op 11 .nil))))))) (.op 5 (.alt (.op 6 (.op 8 (.op 9 (.op 10 (.op 11 .nil))))) (.op 8 (.op 6 (.op 9 (.op 10 (.op 11 .nil)))))))))))))))) (.alt (.op 8 (.alt (.op 6 (.alt (.op 7 (.op 1 (.op 3 (.op 5 (.op 9 (.op 10 (.op 11 .nil))))))) (.op 1 (.alt (.op 7 (.op 3 (.op 5 (.op 9 (.op 10 (.op 11 .nil)))))) (.op 3 (.alt (.op 7 (.op 5 (.op 9 (.op 10 (.op 11 .nil))))) (.op 5 (.op 7 (.op 9 (.op 10 (.op 11 .nil))))))))))) (.alt (.op 7 (.alt (.op 6 (.op 1 (.op 3 (.op 5 (.op 9 (.op 10 (.op 11 .nil))))))) (.op 1 (.alt (.op 6 (.op 3 (.op 5 (.op 9 (.op 10 (.op 11 .nil)))))) (.op 3 (.alt (.op 6 (.op 5 (.op 9 (.op 10 (.op 11 .nil))))) (.op 5 (.op 6 (.op 9 (.op 10 (.op 11 .nil))))))))))) (.op 1 (.alt (.op 6 (.alt (.op 7 (.op 3 (.op 5 (.op 9 (.op 10 (.op 11 .nil)))))) (.op 3 (.alt (.op 7 (.op 5 (.op 9 (.op 10 (.op 11 .nil))))) (.op 5 (.op 7 (.op 9 (.op 10 (.op 11 .nil))))))))) (.alt (.op 7 (.alt (.op 6 (.op 3 (.op 5 (.op 9 (.op 10 (.op 11 .nil)))))) (.op 3 (.alt (.op 6 (.op 5 (.op 9 (.op 10 (.op 11 .nil))))) (.op 5 (.op 6 (.op 9 (.op 10 (.op 11 .nil))))))))) (.op 3 (.alt (.op 6 (.alt (.op 7 (.op 5 (.op 9 (.op 10 (.op 11 .nil))))) (.op 5 (.op 7 (.op 9 (.op 10 (.op 11 .nil))))))) (.alt (.op 7 (.alt (.op 6 (.op 5 (.op 9 (.op 10 (.op 11 .nil))))) (.op 5 (.op 6 (.op 9 (.op 10 (.op 11 .nil))))))) (.op 5 (.alt (.op 6 (.op 7 (.op 9 (.op 10 (.op 11 .nil))))) (.op 7 (.op 6 (.op 9 (.op 10 (.op 11 .nil)))))))))))))))) (.op 1 (.alt (.op 6 (.alt (.op 7 (.alt (.op 8 (.op 3 (.op 5 (.op 9 (.op 10 (.op 11 .nil)))))) (.op 3 (.alt (.op 8 (.op 5 (.op 9 (.op 10 (.op 11 .nil))))) (.op 5 (.op 8 (.op 9 (.op 10 (.op 11 .nil))))))))) (.alt (.op 8 (.alt (.op 7 (.op 3 (.op 5 (.op 9 (.op 10 (.op 11 .nil)))))) (.op 3 (.alt (.op 7 (.op 5 (.op 9 (.op 10 (.op 11 .nil))))) (.op 5 (.op 7 (.op 9 (.op 10 (.op 11 .nil))))))))) (.op 3 (.alt (.op 7 (.alt (.op 8 (.op 5 (.op 9 (.op 10 (.op 11 .nil))))) (.op 5 (.op 8 (.op 9 (.op 10 (.op 11 .nil))))))) (.alt (.op 8 (.alt (.op 7 (.op 5 (.op 9 (.op 10 (.op 11 .nil))))) (.op 5 (.op 7 (.op 9 (.op 10 (.op 11 .nil))))))) (.op 5 (.alt (.op 7 (.op 8 (.op 9 (.op 10 (.op 11 .nil))))) (.op 8 (.op 7 (.op 9 (.op 10 (.op 11 .nil))))))))))))) (.alt (.op 7 (.alt (.op 6 (.alt (.op 8 (.op 3 (.op 5 (.op 9 (.op 10 (.op 11 .nil)))))) (.op 3 (.alt (.op 8 (.op 5 (.op 9 (.op 10 (.op 11 .nil))))) (.op 5 (.op 8 (.op 9 (.op 10 (.op 11 .nil))))))))) (.alt (.op 8 (.alt (.op 6 (.op 3 (.op 5 (.op 9 (.op 10 (.op 11 .nil)))))) (.op 3 (.alt (.op 6 (.op 5 (.op 9 (.op 10 (.op 11 .nil))))) (.op 5 (.op 6 (.op 9 (.op 10 (.op 11 .nil))))))))) (.op 3 (.alt (.op 6 (.alt (.op 8 (.op 5 (.op 9 (.op 10 (.op 11 .nil))))) (.op 5 (.op 8 (.op 9 (.op 10 (.op 11 .nil))))))) (.alt (.op 8 (.alt (.op 6 (.op 5 (.op 9 (.op 10 (.op 11 .nil))))) (.op 5 (.op 6 (.op 9 (.op 10 (.op 11 .nil))))))) (.op 5 (.alt (.op 6 (.op 8 (.op 9 (.op 10 (.op 11 .nil))))) (.op 8 (.op 6 (.op 9 (.op 10 (.op 11 .nil))))))))))))) (.alt (.op 8 (.alt (.op 6 (.alt (.op 7 (.op 3 (.op 5 (.op 9 (.op 10 (.op 11 .nil)))))) (.op 3 (.alt (.op 7 (.op 5 (.op 9 (.op 10 (.op 11 .nil))))) (.op 5 (.op 7 (.op 9 (.op 10 (.op 11 .nil))))))))) (.alt (.op 7 (.alt (.op 6 (.op 3 (.op 5 (.op 9 (.op 10 (.op 11 .nil)))))) (.op 3 (.alt (.op 6 (.op 5 (.op 9 (.op 10 (.op 11 .nil))))) (.op 5 (.op 6 (.op 9 (.op 10 (.op 11 .nil))))))))) (.op 3 (.alt (.op 6 (.alt (.op 7 (.op 5 (.op 9 (.op 10 (.op 11 .nil))))) (.op 5 (.op 7 (.op 9 (.op 10 (.op 11 .nil))))))) (.alt (.op 7 (.alt (.op 6 (.op 5 (.op 9 (.op 10 (.op 11 .nil))))) (.op 5 (.op 6 (.op 9 (.op 10 (.op 11 .nil))))))) (.op 5 (.alt (.op 6 (.op 7 (.op 9 (.op 10 (.op 11 .nil))))) (.op 7 (.op 6 (.op 9 (.op 10 (.op 11 .nil))))))))))))) (.op 3 (.alt (.op 6 (.alt (.op 7 (.alt (.op 8 (.op 5 (.op 9 (.op 10 (.op 11 .nil))))) (.op 5 (.op 8 (.op 9 (.op 10 (.op 11 .nil))))))) (.alt (.op 8 (.alt (.op 7 (.op 5 (.op 9 (.op 10 (.op 11 .nil))))) (.op 5 (.op 7 (.op 9 (.op 10 (.op 11 .nil))))))) (.op 5 (.alt (.op 7 (.op 8 (.op 9 (.op 10 (.op 11 .nil))))) (.op 8 (.op 7 (.op 9 (.op 10 (.op 11 .nil)))))))))) (.alt (.op 7 (.alt (.op 6 (.alt (.op 8 (.op 5 (.op 9 (.op 10 (.op 11 .nil))))) (.op 5 (.op 8 (.op 9 (.op 10 (.op 11 .nil))))))) (.alt (.op 8 (.alt (.op 6 (.op 5 (.op 9 (.op 10 (.op 11 .nil))))) (.op 5 (.op 6 (.op 9 (.op 10 (.op 11 .nil))))))) (.op 5 (.alt (.op 6 (.op 8 (.op 9 (.op 10 (.op 11 .nil))))) (.op 8 (.op 6 (.op 9 (.op 10 (.op 11 .nil)))))))))) (.alt (.op 8 (.alt (.op 6 (.alt (.op 7 (.op 5 (.op 9 (.op 10 (.op 11 .nil))))) (.op 5 (.op 7 (.op 9 (.op 10 (.op 11 .nil))))))) (.alt (.op 7 (.alt (.op 6 (.op 5 (.op 9 (.op 10 (.op 11 .nil))))) (.op 5 (.op 6 (.op 9 (.op 10 (.op 11 .nil))))))) (.op 5 (.alt (.op 6 (.op 7 (.op 9 (.op 10 (.op 11 .nil))))) (.op 7 (.op 6 (.op 9 (.op 10 (.op 11 .nil)))))))))) (.op 5 (.alt (.op 6 (.alt (.op 7 (.op 8 (.op 9 (.op 10 (.op 11 .nil))))) (.op 8 (.op 7 (.op 9 (.op 10 (.op 11 .nil))))))) (.alt (.op 7 (.alt (.op 6 (.op 8 (.op 9 (.op 10 (.op 11 .nil))))) (.op 8 (.op 6 (.op 9 (.op 10 (.op 11 .nil))))))) (.op 8 (.alt (.op 6 (.op 7 (.op 9 (.op 10 (.op 11 .nil))))) (.op 7 (.op 6 (.op 9 (.op 10 (.op 11 .nil)))))))))))))))))))))))) (by kernel_rfl) ?_;refine⟨_,zat _ _ _,(ld b0).1,(ld b0).2,?_⟩;refine⟨_,zat _ _ _,(ld b0).1,(ld b0).2,?_⟩;refine⟨_,zat _ _ _,(ld b0).1,(ld b0).2,?_⟩;have ba:∀ (A:World) (o:Obj),Bw A (A.alloc o):=fun A o=>(zba _ _);have ca:∀ (md:UInt8) {W:World} (b:Bw X W) {K:Ending->World->Prop},(∀ V,Bw W V->Bw X V->K (.returned (.agg (relC (zaT x md)).toArray)) V)->Calls Tryz.prog 29 #[.agg (exC x q c).toArray,u8 md] W K:=fun md {W} b {K} k=>cmo (fen md b) fun e V h=>by obtain⟨rfl,v⟩:=h;exact k V v ((zst b v))
  have b:=b0;show opsT _ _ _ _ (.alt _ _) _ _ _
  repeat' first
   | (with_reducible refine zoJ ?_ ?_)
   | ((with_reducible show opsT _ _ _ _ (.op 6 _) _ _ _);refine⟨ba _ _,?_⟩;(try have n67:=(Nat.ne_of_lt (hlt f7)).symm);(try have n68:=(Nat.ne_of_lt (hlt f8)).symm);(try replace f7:=hold zRq f7);(try replace f8:=hold zRq f8);have f6:=zn6 b;have g6:=b.size;replace b:=b.alloc b.size zRq)
   | ((with_reducible show opsT _ _ _ _ (.op 7 _) _ _ _);refine⟨ba _ _,?_⟩;(try have n67:=Nat.ne_of_lt (hlt f6));(try have n78:=(Nat.ne_of_lt (hlt f8)).symm);(try replace f6:=hold zRq f6);(try replace f8:=hold zRq f8);have f7:=zn6 b;have g7:=b.size;replace b:=b.alloc b.size zRq)
   | ((with_reducible show opsT _ _ _ _ (.op 8 _) _ _ _);refine⟨ba _ _,?_⟩;(try have n68:=Nat.ne_of_lt (hlt f6));(try have n78:=Nat.ne_of_lt (hlt f7));(try replace f6:=hold zRq f6);(try replace f7:=hold zRq f7);have f8:=zn6 b;have g8:=b.size;replace b:=b.alloc b.size zRq)
   | ((with_reducible show opsT _ _ _ _ (.op 1 _) _ _ _);refine ca 3 b fun V v b=>⟨v,?_⟩;(try replace f6:=zaa v f6);(try replace f7:=zaa v f7);(try replace f8:=zaa v f8))
   | ((with_reducible show opsT _ _ _ _ (.op 3 _) _ _ _);refine ca 4 b fun V v b=>⟨v,?_⟩;(try replace f6:=zaa v f6);(try replace f7:=zaa v f7);(try replace f8:=zaa v f8))
   | ((with_reducible show opsT _ _ _ _ (.op 5 _) _ _ _);refine ca 5 b fun V v b=>⟨v,?_⟩;(try replace f6:=zaa v f6);(try replace f7:=zaa v f7);(try replace f8:=zaa v f8))
   | ((with_reducible show opsT _ _ _ _ (.op 9 _) _ _ _);exact ztc b hl0 f6 f7 f8 n67 n68 n78 g6 g7 g8 fun Y h=>⟨(_,_,_),⟨.cons rfl (.cons rfl (.cons rfl (.cons rfl (.cons rfl (.cons rfl (.nil)))))),rfl⟩,h⟩)
 rintro⟨F,H,I⟩ Y ⟨hne,fF,fG,fH,hbY⟩;dsimp only at hne fF fG fH ⊢;replace fX:=zaa hbY fX;replace f0:=zaa hbY f0;replace hbX:=zst hbX hbY;clear hbY;clear X
 rename World=>X
 have wF:∀ md,WrdR (zaT x md).to:=fun md=>zce (by omega);have wG:=wF 4;have wH:=wF 5;replace wF:=wF 3;refine⟨Unit,fun _=>⟨[(0,u8 m),(3,At0 L),(4,At0 (L+1)),(5,At0 F),(6,At0 H),(7,At0 I),(8,i64 n)],[]⟩,fun _ Y=>X=Y,?_,?_⟩
 ·refine⟨_,zaz (zab fX),?_⟩;exact⟨(),⟨.cons rfl (.cons rfl (.cons rfl (.cons rfl (.cons rfl (.cons rfl (.cons (by rw [hnn];rfl) .nil)))))),rfl⟩,rfl⟩
 rintro _ _ rfl;refine⟨Nat,fun R=>⟨[(0,u8 m),(3,At0 L),(4,At0 (L+1)),(5,At0 F),(6,At0 H),(7,At0 I),(8,i64 n),(9,At0 R)],[]⟩,fun R Z=>L+1<R/\F<R/\H<R/\I<R/\RelH Z R ⟨n,fun _=>0⟩/\ExH Z L x q c/\RelH Z (L+1) zam/\RelH Z F (zaT x 3)/\RelH Z H (zaT x 4)/\RelH Z I (zaT x 5)/\Bw w Z,?_,?_⟩
 ·refine⟨relC ⟨n,fun _=>0⟩,by kernel_rfl,?_⟩;refine zak (X:=X) (v := .agg (relC ⟨n,fun _=>0⟩).toArray) k27 (zad _) (by kernel_rfl) (zas _) fun Z hbZ fZ sZ=>?_;exact⟨X.heap.size,⟨.cons rfl (.cons rfl (.cons rfl (.cons rfl (.cons rfl (.cons rfl (.cons rfl (.cons rfl (.nil)))))))),rfl⟩,hlt f0,hlt fF,hlt fG,hlt fH,fZ,zaa hbZ fX,zaa hbZ f0,zaa hbZ fF,zaa hbZ fG,zaa hbZ fH,(zst hbX hbZ)⟩
 clear fX f0 fF fG fH hbX;clear X;rintro R X ⟨hR0,hR1,hR2,hR3,f,fX,f0,fF,fG,fH,hbX⟩;refine⟨Unit,fun _=>⟨[(4,At0 (L+1)),(9,At0 R)],[]⟩,fun _ Z=>RelH Z R (ze4 m.toNat x)/\RelH Z (L+1) zam/\Bw w Z,?_,?_⟩
 ·obtain⟨base,hbase⟩:∃ base:Nat->Nat,base=fun _=>0:=⟨_,rfl⟩;have hbw:WrdR base:=by rw [hbase];exact fun i _=>(by show 0<2^64;decide)
  obtain⟨p,hp⟩:∃ p:Nat->Nat->Bool,p=fun a b=>hasM x.po a b&&(kneQ x a&&(kneQ x b&&zau m.toNat x a b (hasM (zaT x 3) a b) (hasM (zaT x 4) a b) (hasM (zaT x 5) a b))):=⟨_,rfl⟩;have hend:(⟨n,zaR base n p n 0⟩:RelD)=ze4 m.toNat x:=by rw [hp,hbase,zd3,hnn];rfl
  rw [<- hbase] at f;refine⟨Nat,fun a=>⟨[(0,u8 m),(3,At0 L),(4,At0 (L+1)),(5,At0 F),(6,At0 H),(7,At0 I),(8,i64 n),(9,At0 R),(10,i64 (a:Nat))],[]⟩,fun a Z=>a<=n/\RelH Z R ⟨n,zaR base n p a 0⟩/\ExH Z L x q c/\RelH Z (L+1) zam/\RelH Z F (zaT x 3)/\RelH Z H (zaT x 4)/\RelH Z I (zaT x 5)/\Bw w Z,fun a=>n-a,0,⟨.cons rfl (.cons rfl (.cons rfl (.cons rfl (.cons rfl (.cons rfl (.cons rfl (.cons rfl (.cons rfl (.nil))))))))),rfl⟩,⟨Nat.zero_le _,by rw [zb4];exact f,fX,f0,fF,fG,fH,hbX⟩,?_⟩;clear f fX f0 fF fG fH hbX;clear X;rintro a X ⟨ha,f,fX,f0,fF,fG,fH,hbX⟩;dsimp only at f ⊢;refine biE (fun hc=>?_) fun hc=>?_
  ·have hc:(a:Int)<(n:Int):=dT hc;have han:a<n:=by omega
   refine⟨Nat,fun d=>⟨[(0,u8 m),(3,At0 L),(4,At0 (L+1)),(5,At0 F),(6,At0 H),(7,At0 I),(8,i64 n),(9,At0 R),(10,i64 (a:Nat)),(11,i64 (d:Nat))],[]⟩,fun d Z=>d<=n/\RelH Z R ⟨n,zaR base n p a d⟩/\ExH Z L x q c/\RelH Z (L+1) zam/\RelH Z F (zaT x 3)/\RelH Z H (zaT x 4)/\RelH Z I (zaT x 5)/\Bw w Z,fun d=>n-d,0,⟨.cons rfl (.cons rfl (.cons rfl (.cons rfl (.cons rfl (.cons rfl (.cons rfl (.cons rfl (.cons rfl (.cons rfl (.nil)))))))))),rfl⟩,⟨Nat.zero_le _,f,fX,f0,fF,fG,fH,hbX⟩,?_⟩;clear f fX f0 fF fG fH hbX;clear X;rintro d X ⟨hd,f,fX,f0,fF,fG,fH,hbX⟩;dsimp only at f ⊢;refine biE (fun hc=>?_) fun hc=>?_
   ·have hc:(d:Int)<(n:Int):=dT hc;have hdn:d<n:=(by omega);obtain⟨bq,oq,hqe,hbq,hat⟩:=zd7 (hv.below hbX).ev (by omega:0<x.ev.length);subst hqe;have dX:Bw X X.drew:=(Below.refl _ _).drew;refine DrawE.ord [] [0,1,2,3,4,5,6,7,8,9,10,11,12,13,14,15,16,17,18,19,20,21,22,23,24,25,26,27,28,29,30,32,33,34,36,37,38,31,35,39,40,41] (by kernel_rfl) ?_;have f:=zaa dX f;have fX:=zaa dX fX;have f0:=zaa dX f0;have fF:=zaa dX fF;have fG:=zaa dX fG;have fH:=zaa dX fH;have hat:=fun i hi=>zae dX (hat i hi);replace hbX:=zst hbX dX;clear dX;refine⟨_,zad _,r_po fX,hlt fX,?_⟩;refine cmo (zaX hv.po (by omega) (by omega)) ?_;rintro e U ⟨rfl,hbU⟩;refine⟨hbU,?_⟩;have f:=zaa hbU f;have fX:=zaa hbU fX;have f0:=zaa hbU f0;have fF:=zaa hbU fF;have fG:=zaa hbU fG;have fH:=zaa hbU fH;have hat:=fun i hi=>zae hbU (hat i hi);replace hbX:=zst hbX hbU;refine biE (fun h1=>?_) fun h1=>?_
    ·refine⟨_,zaz (zab fX),?_⟩;refine⟨a,rfl,by omega,?_⟩;refine⟨_,zc7 (hat a (by omega)),?_⟩;refine biE (fun h2=>?_) fun h2=>?_
     ·have h2:=zdE.symm.trans (notB h2);refine⟨_,zaz (zab fX),?_⟩;refine⟨d,rfl,by omega,?_⟩;refine⟨_,zc7 (hat d (by omega)),?_⟩;refine biE (fun h3=>?_) fun h3=>?_
      ·have h3:=zdE.symm.trans (notB h3);refine⟨_,zat _ _ _,zab fX,hlt fX,?_⟩;refine⟨_,zad _,zab fF,hlt fF,?_⟩;refine⟨_,zad _,zab fG,hlt fG,?_⟩;refine⟨_,zad _,zab fH,hlt fH,?_⟩;refine cmo (zaX wF (by omega) (by omega)) ?_;rintro e U ⟨rfl,hbU⟩;refine⟨hbU,?_⟩;have f:=zaa hbU f;have fX:=zaa hbU fX;have f0:=zaa hbU f0;have fF:=zaa hbU fF;have fG:=zaa hbU fG;have fH:=zaa hbU fH;have hat:=fun i hi=>zae hbU (hat i hi);replace hbX:=zst hbX hbU;refine cmo (zaX wG (by omega) (by omega)) ?_;rintro e U ⟨rfl,hbU⟩;refine⟨hbU,?_⟩;have f:=zaa hbU f;have fX:=zaa hbU fX;have f0:=zaa hbU f0;have fF:=zaa hbU fF;have fG:=zaa hbU fG;have fH:=zaa hbU fH;have hat:=fun i hi=>zae hbU (hat i hi);replace hbX:=zst hbX hbU;refine cmo (zaX wH (by omega) (by omega)) ?_;rintro e U ⟨rfl,hbU⟩;refine⟨hbU,?_⟩;have f:=zaa hbU f;have fX:=zaa hbU fX;have f0:=zaa hbU f0;have fF:=zaa hbU fF;have fG:=zaa hbU fG;have fH:=zaa hbU fH;have hat:=fun i hi=>zae hbU (hat i hi);replace hbX:=zst hbX hbU;refine cmo (znf (m:=m) (a:=a) (d:=d) (hv.below hbX) (by omega) (by omega)) ?_;rintro e U ⟨rfl,hbU⟩;refine⟨hbU,?_⟩;have f:=zaa hbU f;have fX:=zaa hbU fX;have f0:=zaa hbU f0;have fF:=zaa hbU fF;have fG:=zaa hbU fG;have fH:=zaa hbU fH;have hat:=fun i hi=>zae hbU (hat i hi);replace hbX:=zst hbX hbU;refine biE (fun h4=>?_) fun h4=>?_
       ·have hpt:p a d=true:=(by rw [hp];simp [h1,h2,h3,h4,kneQ]);refine⟨_,zad ⟨n,zaR base n p a d⟩,zab f,hlt f,?_⟩;refine cmo (zeK (a:=a) (d:=d) (zbW hbw (by omega) (by omega)) (by omega) (by omega)) ?_;rintro e U ⟨rfl,hbU⟩;rw [putB hpt];refine zcb (zaa hbU f) (by omega) ((zst hbX hbU)) fun Z fZ oZ bZ=>?_;refine nxI (by omega) ?_;exact⟨d+1,⟨.cons rfl (.cons rfl (.cons rfl (.cons rfl (.cons rfl (.cons rfl (.cons rfl (.cons rfl (.cons rfl (.cons rfl (.nil)))))))))),rfl⟩,⟨hdn,fZ,(oZ L (by omega)).trans (zaa hbU fX),(oZ (L+1) (by omega)).trans (zaa hbU f0),(oZ F (by omega)).trans (zaa hbU fF),(oZ H (by omega)).trans (zaa hbU fG),(oZ I (by omega)).trans (zaa hbU fH),bZ⟩,zdc (by omega)⟩
       ·have hpf:p a d=false:=(by rw [hp];simp [h1,h2,h3,h4,kneQ]);refine nxI (by omega) ?_;exact⟨d+1,⟨.cons rfl (.cons rfl (.cons rfl (.cons rfl (.cons rfl (.cons rfl (.cons rfl (.cons rfl (.cons rfl (.cons rfl (.nil)))))))))),rfl⟩,⟨hdn,by rw [<- zaO hpf];exact f,fX,f0,fF,fG,fH,hbX⟩,zdc (by omega)⟩
      ·have h3:=zdE.symm.trans (notF h3);refine brF ?_;have hpf:p a d=false:=(by rw [hp];simp [h1,h2,h3,kneQ]);refine nxI (by omega) ?_;exact⟨d+1,⟨.cons rfl (.cons rfl (.cons rfl (.cons rfl (.cons rfl (.cons rfl (.cons rfl (.cons rfl (.cons rfl (.cons rfl (.nil)))))))))),rfl⟩,⟨hdn,by rw [<- zaO hpf];exact f,fX,f0,fF,fG,fH,hbX⟩,zdc (by omega)⟩
     ·have h2:=zdE.symm.trans (notF h2);refine brF ?_;refine brF ?_;have hpf:p a d=false:=(by rw [hp];simp [h1,h2,kneQ]);refine nxI (by omega) ?_;exact⟨d+1,⟨.cons rfl (.cons rfl (.cons rfl (.cons rfl (.cons rfl (.cons rfl (.cons rfl (.cons rfl (.cons rfl (.cons rfl (.nil)))))))))),rfl⟩,⟨hdn,by rw [<- zaO hpf];exact f,fX,f0,fF,fG,fH,hbX⟩,zdc (by omega)⟩
    ·refine brF ?_;refine brF ?_;refine brF ?_;have hpf:p a d=false:=(by rw [hp];simp [h1,kneQ]);refine nxI (by omega) ?_;exact⟨d+1,⟨.cons rfl (.cons rfl (.cons rfl (.cons rfl (.cons rfl (.cons rfl (.cons rfl (.cons rfl (.cons rfl (.cons rfl (.nil)))))))))),rfl⟩,⟨hdn,by rw [<- zaO hpf];exact f,fX,f0,fF,fG,fH,hbX⟩,zdc (by omega)⟩
   ·have hc:¬ (d:Int)<(n:Int):=dF hc;obtain rfl:d=n:=(by omega);refine nxI (by omega) ?_;exact⟨a+1,⟨.cons rfl (.cons rfl (.cons rfl (.cons rfl (.cons rfl (.cons rfl (.cons rfl (.cons rfl (.cons rfl (.nil))))))))),rfl⟩,⟨han,by rw [<- zb5];exact f,fX,f0,fF,fG,fH,hbX⟩,zdc (by omega)⟩
  ·have hc:¬ (a:Int)<(n:Int):=dF hc;obtain rfl:a=n:=by omega
   rw [hend] at f;exact⟨(),⟨.cons rfl (.cons rfl (.nil)),rfl⟩,f,f0,hbX⟩
 clear f fX f0 fF fG fH hbX;clear X;rintro _ X ⟨f,f0,hbX⟩;refine⟨relC (ze4 m.toNat x),zad _,zab f,hlt f,?_⟩;exact zbF f0 (by omega) hbX fun Z fZ bZ=>⟨relC (ze4 m.toNat x),zad _,zab fZ,rfl,bZ⟩
end
section
variable {w:World}
theorem zgd {r:RelD} {n a:Nat} (hr:WrdR r.to) (hn:r.n=n) (h48:n<=48) (ha:a<48):CB 47 #[.agg (relC r).toArray,i64 (a:Nat)] w (i64 (zb3 r a:Nat)):=by
 refine cofM 20 [.agg (relC r).toArray,i64 (a:Nat)] (.c .p .p) Tryz.func47 ?_;obtain⟨L,hL⟩:=nm (w.heap.size);refine⟨Unit,fun _=>⟨[(1,i64 (a:Nat)),(2,At0 L)],[]⟩,fun _ X=>RelH X L r/\Bw w X,⟨(),⟨.cons rfl (.cons (by rw [hL];rfl) .nil),rfl⟩,by rw [hL];exact hnew w _,(zba w _)⟩,?_⟩;rintro _ X ⟨f,hbX⟩;have hs:zb3 r a=cntQ (fun b=>hasQ r b a) n:=by unfold zb3;rw [hn];rfl
 rw [hs];refine⟨Nat,fun b=>⟨[(1,i64 (a:Nat)),(2,At0 L),(5,i64 (cntQ (fun b=>hasQ r b a) b:Nat)),(6,i64 (b:Nat))],[]⟩,fun b Y=>b<=n/\RelH Y L r/\Bw w Y,fun b=>n-b,0,(cvE rfl rfl),⟨Nat.zero_le _,f,hbX⟩,?_⟩;clear f hbX;clear X;rintro b X ⟨hb,f,hbX⟩;dsimp only;refine⟨i64 r.n,zcJ f,?_⟩;refine biE (fun hc=>?_) fun hc=>?_
 ·have hc:(b:Int)<r.n:=dT hc;have hbn:b<n:=by omega
  have hcl:cntQ (fun b=>hasQ r b a) b<=b:=by
   unfold cntQ;have:=List.length_filter_le (fun b=>hasQ r b a) (List.range b);rw [List.length_range] at this;exact this
  refine⟨relC r,zad _,zab f,hlt f,?_⟩;refine cmo (zbu (a:=b) (d:=a) hr (by omega) (by omega)) ?_;rintro e Y ⟨rfl,hbY⟩;have bY:=zst hbX hbY;have f:=zaa hbY f;refine biE (fun h=>?_) fun h=>?_
  ·have h:hasQ r b a=true:=h;have e1:cntQ (fun b=>hasQ r b a) (b+1)=cntQ (fun b=>hasQ r b a) b+1:=by rw [za7,if_pos h]
   refine⟨((cntQ (fun b=>hasQ r b a) (b+1):Nat):Int),(zaj (by omega)).trans (by omega),?_⟩;refine nxI (by omega) ?_;exact⟨b+1,(cvE rfl rfl),⟨hbn,f,bY⟩,zdc (by omega)⟩
  ·have h:hasQ r b a=false:=h;have e1:cntQ (fun b=>hasQ r b a) (b+1)=cntQ (fun b=>hasQ r b a) b:=by rw [za7,if_neg (by rw [h];decide)];rfl
   refine nxI (by omega) ?_;exact⟨b+1,⟨.cons rfl (.cons rfl (.cons (by rw [e1];rfl) (.cons rfl .nil))),rfl⟩,⟨hbn,f,bY⟩,zdc (by omega)⟩
 ·have hc:¬ (b:Int)<r.n:=dF hc;obtain rfl:b=n:=by omega
  exact⟨rfl,hbX⟩
theorem zil {r:RelD} {n a:Nat} (hr:WrdR r.to) (hn:r.n=n) (h48:n<=48) (ha:a<48):CB 48 #[.agg (relC r).toArray,i64 (a:Nat)] w (i64 (zcl r a:Nat)):=by
 refine cofM 20 [.agg (relC r).toArray,i64 (a:Nat)] (.c .p .p) Tryz.func48 ?_;obtain⟨L,hL⟩:=nm (w.heap.size);refine⟨Unit,fun _=>⟨[(1,i64 (a:Nat)),(2,At0 L)],[]⟩,fun _ X=>RelH X L r/\Bw w X,⟨(),⟨.cons rfl (.cons (by rw [hL];rfl) .nil),rfl⟩,by rw [hL];exact hnew w _,(zba w _)⟩,?_⟩;rintro _ X ⟨f,hbX⟩;have hs:zcl r a=cntQ (fun b=>hasQ r a b) n:=by unfold zcl;rw [hn];rfl
 rw [hs];refine⟨Nat,fun b=>⟨[(1,i64 (a:Nat)),(2,At0 L),(5,i64 (cntQ (fun b=>hasQ r a b) b:Nat)),(6,i64 (b:Nat))],[]⟩,fun b Y=>b<=n/\RelH Y L r/\Bw w Y,fun b=>n-b,0,(cvE rfl rfl),⟨Nat.zero_le _,f,hbX⟩,?_⟩;clear f hbX;clear X;rintro b X ⟨hb,f,hbX⟩;dsimp only;refine⟨i64 r.n,zcJ f,?_⟩;refine biE (fun hc=>?_) fun hc=>?_
 ·have hc:(b:Int)<r.n:=dT hc;have hbn:b<n:=by omega
  have hcl:cntQ (fun b=>hasQ r a b) b<=b:=by
   unfold cntQ;have:=List.length_filter_le (fun b=>hasQ r a b) (List.range b);rw [List.length_range] at this;exact this
  refine⟨relC r,zad _,zab f,hlt f,?_⟩;refine cmo (zbu (a:=a) (d:=b) hr (by omega) (by omega)) ?_;rintro e Y ⟨rfl,hbY⟩;have bY:=zst hbX hbY;have f:=zaa hbY f;refine biE (fun h=>?_) fun h=>?_
  ·have h:hasQ r a b=true:=h;have e1:cntQ (fun b=>hasQ r a b) (b+1)=cntQ (fun b=>hasQ r a b) b+1:=by rw [za7,if_pos h]
   refine⟨((cntQ (fun b=>hasQ r a b) (b+1):Nat):Int),(zaj (by omega)).trans (by omega),?_⟩;refine nxI (by omega) ?_;exact⟨b+1,(cvE rfl rfl),⟨hbn,f,bY⟩,zdc (by omega)⟩
  ·have h:hasQ r a b=false:=h;have e1:cntQ (fun b=>hasQ r a b) (b+1)=cntQ (fun b=>hasQ r a b) b:=by rw [za7,if_neg (by rw [h];decide)];rfl
   refine nxI (by omega) ?_;exact⟨b+1,⟨.cons rfl (.cons rfl (.cons (by rw [e1];rfl) (.cons rfl .nil))),rfl⟩,⟨hbn,f,bY⟩,zdc (by omega)⟩
 ·have hc:¬ (b:Int)<r.n:=dF hc;obtain rfl:b=n:=by omega
  exact⟨rfl,hbX⟩
theorem zhV {x:ExD} {q:Option Addr} {c a loc:Nat} (hv:SlR evE w q x.ev) (ha:a<x.ev.length):Calls Tryz.prog 93 #[.slice q x.ev.length c,i64 (a:Nat),i64 (loc:Nat)] w fun e w'=>e = .returned (.bool (zck x a loc))/\w=w':=by
 refine cofE 23 [.slice q x.ev.length c,i64 (a:Nat),i64 (loc:Nat)] Tryz.func93 ?_;obtain⟨bq,oq,hqe,hb,hat⟩:=zd8 hv ha;subst hqe;refine⟨a,rfl,ha,?_⟩;refine⟨u8 (evA x a).k,by have:=zac hat (i:=1) (v:=u8 (evA x a).k) rfl;exact this,?_⟩;refine biE (fun h=>?_) fun h=>?_
 ·have h:decide ((evA x a).k=2)=true:=(za4 (x:=(evA x a).k) (y:=2)).symm.trans h;refine⟨a,rfl,ha,?_⟩;refine⟨u8 (evA x a).l,by have:=zac hat (i:=2) (v:=u8 (evA x a).l) rfl;exact this,?_⟩;refine⟨((evA x a).l.toNat:Int),zaN _,?_⟩;refine⟨rb ?_,rfl⟩;unfold zck isW;rw [h,Bool.true_and];exact decide_eq_decide.2 Int.ofNat_inj
 ·have h:decide ((evA x a).k=2)=false:=(za4 (x:=(evA x a).k) (y:=2)).symm.trans h;refine⟨rb ?_,rfl⟩;unfold zck isW;rw [h];rfl
end
theorem zl6 (u:Nat):IntKind.u8.wrap (u:Int)=((UInt8.ofNat u).toNat:Int):=by
 have:=UInt8.toNat_ofNat' (n:=u);simp [IntKind.wrap,IntKind.bits,IntKind.signed] at this ⊢
 try omega
theorem znk {ev:List Ev} {k:Nat} (hk:k<ev.length):hdGo k (ev.drop k)=if (ev.getD k ev0).th = -1 then (if ev.getD k ev0=⟨-1,2,UInt8.ofNat k,(ev.getD k ev0).v,0,0,0⟩ then hdGo (k+1) (ev.drop (k+1)) else none) else some k:=by
 have e:ev.drop k=ev.getD k ev0::ev.drop (k+1):=by
  rw [gDe,gE hk];exact (List.getElem_cons_drop hk).symm
 rw [e];rfl
theorem zoY (ev:List Ev):hdGo ev.length (ev.drop ev.length)=some ev.length:=by
 rw [List.drop_length];rfl
theorem zgK {ev:List Ev} {l:Nat} (h:hdGo 0 ev=some l) (hb:l<1\/6<l\/48<ev.length):zbU ev=none:=by
 unfold zbU;rw [h];exact if_pos hb
theorem zlI {ev:List Ev} {l j:Nat} (h:hdGo 0 ev=some l) (hj:j<ev.length-l) (hb:zdY ev l j=false):zbU ev=none:=by
 unfold zbU;rw [h];dsimp only
 split
 ·rfl
 ·rw [if_neg];intro ha;rw [List.all_eq_true] at ha;have:=ha j (List.mem_range.2 hj);rw [hb] at this
  cases this
theorem zlH {ev:List Ev} {l:Nat} (h:hdGo 0 ev=some l) (hb:¬ (l<1\/6<l\/48<ev.length)) (ha:∀ j,j<ev.length-l->zdY ev l j=true):zbU ev=some l:=by
 unfold zbU;rw [h];dsimp only;rw [if_neg hb,if_pos];rw [List.all_eq_true];exact fun j hj=>ha j (List.mem_range.1 hj)
theorem zge {x:UInt8} {n:Nat} (h:n<256):x=UInt8.ofNat n↔x.toNat=n:=by
 rw [<- UInt8.toNat_inj,UInt8.toNat_ofNat',Nat.mod_eq_of_lt h]
theorem znd {e:Ev} {k:Nat}:zgF e k=true↔1<=e.k.toNat/\e.k.toNat<=3/\(e.k.toNat=3->e.l.toNat=0/\e.v.toNat=0)/\(e.k.toNat<3->e.l.toNat<k):=by
 have h3:e.k=3↔e.k.toNat=3:=zge (n:=3) (by decide);have hl:e.l=0↔e.l.toNat=0:=zge (n:=0) (by decide);have hv:e.v=0↔e.v.toNat=0:=zge (n:=0) (by decide);unfold zgF;simp only [bAT,Bool.or_eq_true,Bool.not_eq_true',dE,decide_eq_false_iff_not,h3,hl,hv];omega
def zg9 (ev:List Ev):Value:=match zbU ev with
 | none=>i64 (-1)
 | some l=>i64 (l:Nat)
theorem zi7 {ev:List Ev} {q:Option Addr} {X:World} (hv:SlR evE X q ev) (h:0<ev.length):∃ bq oq,q=some ⟨bq,oq,none⟩/\bq<X.heap.size/\∀ i,i<ev.length->zax X ⟨bq,oq+i*7,none⟩ (evE.enc (ev.getD i ev0)):=by
 obtain⟨b,o,hq,hb,hat⟩:=hv.at h;refine⟨b,o,hq,hb,fun i hi=>?_⟩;have:=hat i hi;rw [gDe,gE hi];exact this
section
variable {w:World} {c:Nat} {ev:List Ev} {q:Option Addr}
theorem zoX (hv:SlR evE w q ev) (hmax:ev.length<4611686018427387904):CB 45 #[.slice q ev.length c] w (zg9 ev):=by
 refine cofM 134 [.slice q ev.length c] (.c .p (.c .p (.c .p (.c .p .p)))) Tryz.func45 ?_;have ret:∀ {X:World},Bw w X->zbU ev=none->(Ending.returned (i64 (-1))=Ending.returned (zg9 ev)/\Bw w X):=fun {X} hb h=>⟨by unfold zg9;rw [h],hb⟩;refine⟨Unit,fun _=>⟨[(0,.slice q ev.length c)],[]⟩,fun _ X=>w=X,⟨(),(cvE rfl rfl),rfl⟩,?_⟩;rintro _ _ rfl;refine⟨Unit,fun _=>⟨[(0,.slice q ev.length c),(3,i64 (0:Nat))],[]⟩,fun _ X=>w=X,⟨(),(cvE rfl rfl),rfl⟩,?_⟩;rintro _ _ rfl;refine⟨Nat,fun k=>⟨[(0,.slice q ev.length c),(3,i64 (k:Nat))],[]⟩,fun k X=>k<=ev.length/\hdGo 0 ev=some k/\Bw w X,?_,?_⟩
 ·refine⟨Nat,fun k=>⟨[(0,.slice q ev.length c),(3,i64 (k:Nat))],[]⟩,fun k X=>k<=ev.length/\hdGo 0 ev=hdGo k (ev.drop k)/\Bw w X,fun k=>ev.length-k,0,(cvE rfl rfl),⟨Nat.zero_le _,by rw [List.drop_zero],Below.refl _ _⟩,?_⟩;rintro k X ⟨hk,hg,hbX⟩;dsimp only;refine biE (fun hc=>?_) fun hc=>?_
  ·have hc:(k:Int)<(ev.length:Int):=dT hc;have hkl:k<ev.length:=by omega
   obtain⟨bq,oq,hqe,hbq,hat⟩:=zi7 hv (by omega);subst hqe;obtain⟨e,he⟩:=nm (ev.getD k ev0);have hatk:=hat k hkl;have hst:=znk hkl;rw [<- he] at hatk hst;refine⟨k,rfl,hkl,?_⟩;refine⟨i64 e.th,by have:=zac (zae hbX hatk) (i:=0) (v:=i64 e.th) rfl;exact this,?_⟩;refine biE (fun h1=>?_) fun h1=>?_
   ·have h1:e.th = -1:=dT h1;rw [if_pos h1] at hst;have dX:Bw X X.drew:=(Below.refl _ _).drew;have hbD:=zst hbX dX;refine DrawE.ord [] [0,1,2,3,4,5,6,7,8,9,10,11,12] (by kernel_rfl) ?_;refine⟨k,rfl,hkl,?_⟩;refine⟨evE.enc e,rfl,zae hbD hatk,nL hbq hbD.size,?_⟩;refine⟨((UInt8.ofNat k).toNat:Int),zl6 k,?_⟩;refine⟨k,rfl,hkl,?_⟩;refine⟨u8 e.v,by have:=zac (zae hbD hatk) (i:=3) (v:=u8 e.v) rfl;exact this,?_⟩;refine⟨evE.enc ⟨-1,2,UInt8.ofNat k,e.v,0,0,0⟩,by kernel_rfl,?_⟩;refine⟨_,fun w=>zpA _ _ e ⟨-1,2,UInt8.ofNat k,e.v,0,0,0⟩ w,?_⟩;refine biE (fun h2=>?_) fun h2=>?_
    ·have h2:¬ e=⟨-1,2,UInt8.ofNat k,e.v,0,0,0⟩:=dF (notB h2);rw [if_neg h2] at hst;exact ret hbD (by unfold zbU;rw [hg,hst])
    ·have h2:e=⟨-1,2,UInt8.ofNat k,e.v,0,0,0⟩:=dT (notF h2);rw [if_pos h2] at hst;refine nxI (by omega) ?_;exact⟨k+1,(cvE rfl rfl),⟨hkl,hg.trans hst,hbD⟩,zdc (by omega)⟩
   ·have h1:¬ e.th = -1:=dF h1;rw [if_neg h1] at hst;exact⟨k,(cvE rfl rfl),hk,hg.trans hst,hbX⟩
  ·have hc:¬ (k:Int)<(ev.length:Int):=dF hc;obtain rfl:k=ev.length:=by omega
   refine brF ?_;exact⟨ev.length,(cvE rfl rfl),hk,hg.trans (zoY ev),hbX⟩
 rintro k X ⟨hk,hg,hbX⟩;refine⟨Unit,fun _=>⟨[(0,.slice q ev.length c),(3,i64 (k:Nat))],[]⟩,fun _ Y=>(1<=k/\k<=6/\ev.length<=48)/\X=Y,?_,?_⟩
 ·refine biE (fun h1=>?_) fun h1=>?_
  ·have h1:(k:Int)<1:=dT h1;refine brT ?_;refine brT ?_;exact ret hbX (zgK hg (by omega))
  have h1:¬ (k:Int)<1:=dF h1;refine biE (fun h2=>?_) fun h2=>?_
  ·have h2:(6:Int)<(k:Int):=dT h2;refine brT ?_;exact ret hbX (zgK hg (by omega))
  have h2:¬ (6:Int)<(k:Int):=dF h2;refine biE (fun h3=>?_) fun h3=>?_
  ·have h3:(48:Int)<(ev.length:Int):=dT h3;exact ret hbX (zgK hg (by omega))
  have h3:¬ (48:Int)<(ev.length:Int):=dF h3;exact⟨(),(cvE rfl rfl),by omega,rfl⟩
 rintro _ _ ⟨⟨k1,k6,h48⟩,rfl⟩;obtain⟨bq,oq,hqe,hbq,hat⟩:∃ bq oq,q=some ⟨bq,oq,none⟩/\bq<w.heap.size/\∀ i,i<ev.length->zax w ⟨bq,oq+i*7,none⟩ (evE.enc (ev.getD i ev0)):=zi7 hv (by omega);subst hqe;refine⟨Nat,fun i=>⟨[(0,.slice (some ⟨bq,oq,none⟩) ev.length c),(3,i64 (k:Nat)),(4,i64 (i:Nat))],[]⟩,fun i X=>(k<=i/\i<=ev.length)/\(∀ j,j<i-k->zdY ev k j=true)/\Bw w X,fun i=>ev.length-i,k,(cvE rfl rfl),⟨by omega,fun j hj=>by omega,hbX⟩,?_⟩;clear hbX;clear X;rintro i X ⟨⟨hki,hi⟩,hall,hbX⟩;dsimp only;refine biE (fun hc=>?_) fun hc=>?_
 ·have hc:(i:Int)<(ev.length:Int):=dT hc;have hil:i<ev.length:=by omega
  obtain⟨e,he⟩:=nm (ev.getD i ev0);have hati:=hat i hil;rw [<- he] at hati;have bad:∀ {Y:World},Bw w Y->zdY ev k (i-k)=false->(Ending.returned (i64 (-1))=Ending.returned (zg9 ev)/\Bw w Y):=fun {Y} hb h=>ret hb (zlI hg (by omega) h);refine⟨i,rfl,hil,?_⟩;refine⟨evE.enc e,rfl,zae hbX hati,nL hbq hbX.size,?_⟩;obtain⟨M,hM⟩:=nm (X.heap.size);refine zak (X:=X) (v := .agg (evE.enc e).toArray) k54 rfl rfl (List.all_eq_true.2 fun u hu=>evE.one e u hu) fun Y hbY fY sY=>?_;replace fY:Y.heap[M]?=some (.cells (evE.enc e).toArray 54 (0,0)):=by rw [hM];exact fY
  have hbY2:=zst hbX hbY;have hei:ev.getD (k+(i-k)) ev0=e:=by rw [show k+(i-k)=i by omega,he]
  have spec:zdY ev k (i-k)=(((List.range (i-k)).all fun t=>decide ((ev.getD (k+t) ev0).th<=e.th))&&(decide (0<=e.th)&&(decide (e.th<=3)&&(decide (e.p.toNat=cntQ (fun t=>decide ((ev.getD (k+t) ev0).th=e.th)) (i-k))&&zgF e k)))):=by
   unfold zdY;rw [hei]
  refine⟨Nat,fun u=>⟨[(0,.slice (some ⟨bq,oq,none⟩) ev.length c),(3,i64 (k:Nat)),(4,i64 (i:Nat)),(5,At0 M),(6,i64 (cntQ (fun t=>decide ((ev.getD (k+t) ev0).th=e.th)) (u-k):Nat)),(7,i64 (u:Nat))],[]⟩,fun u Z=>(k<=u/\u<=i)/\(∀ t,t<u-k->(ev.getD (k+t) ev0).th<=e.th)/\Z.heap[M]?=some (.cells (evE.enc e).toArray 54 (0,0))/\Bw w Z,fun u=>i-u,k,⟨.cons rfl (.cons rfl (.cons rfl (.cons (by rw [hM];rfl) (.cons (by rw [Nat.sub_self];rfl) (.cons rfl .nil))))),rfl⟩,⟨by omega,fun t ht=>by omega,fY,hbY2⟩,?_⟩;clear hM hbX hbY fY sY hbY2;clear Y X;rintro u X ⟨⟨hku,hui⟩,hle,fM,hbX⟩;dsimp only;have dX:Bw X X.drew:=(Below.refl _ _).drew;have hbD:=zst hbX dX;refine biE (fun hc=>?_) fun hc=>?_
  ·have hc:(u:Int)<(i:Int):=dT hc;have hul:u<i:=by omega
   obtain⟨g,hge⟩:=nm (ev.getD u ev0);have hatu:=hat u (by omega);rw [<- hge] at hatu;have hgu:ev.getD (k+(u-k)) ev0=g:=by rw [show k+(u-k)=u by omega,hge]
   have hsu:u+1-k=(u-k)+1:=by omega
   have hcl:cntQ (fun t=>decide ((ev.getD (k+t) ev0).th=e.th)) (u-k)<=u-k:=by
    unfold cntQ;have:=List.length_filter_le (fun t=>decide ((ev.getD (k+t) ev0).th=e.th)) (List.range (u-k));rw [List.length_range] at this;exact this
   have fD:=zaa dX fM;have late:∀ {n:Nat},n=cntQ (fun t=>decide ((ev.getD (k+t) ev0).th=e.th)) (u+1-k)->g.th<=e.th->(∀ t,t<u+1-k->(ev.getD (k+t) ev0).th<=e.th):=fun {n} _ h t ht=>by
    by_cases e2:t=u-k
    ·rw [e2,hgu];exact h
    ·exact hle t (by omega)
   have worse:¬ g.th<=e.th->zdY ev k (i-k)=false:=fun h=>by
    rw [spec];have:((List.range (i-k)).all fun t=>decide ((ev.getD (k+t) ev0).th<=e.th))=false:=by
     rw [List.all_eq_false];exact⟨u-k,List.mem_range.2 (by omega),by rw [hgu,decide_eq_false h];decide⟩
    rw [this];rfl
   refine DrawE.ord [] [0,1,2,3,4,5,6,7] (by kernel_rfl) ?_;refine⟨u,rfl,by omega,?_⟩;refine⟨i64 g.th,by have:=zac (zae hbD hatu) (i:=0) (v:=i64 g.th) rfl;exact this,?_⟩;refine⟨i64 e.th,zac (zab fD) (i:=0) rfl,?_⟩;have dD:Below X.drew.heap.size X.drew X.drew.drew:=(Below.refl _ _).drew;have hbE:=zst hbD dD;have fE:=zaa dD fD;refine biE (fun h1=>?_) fun h1=>?_
   ·have h1:g.th=e.th:=dT h1;have e1:cntQ (fun t=>decide ((ev.getD (k+t) ev0).th=e.th)) (u+1-k)=cntQ (fun t=>decide ((ev.getD (k+t) ev0).th=e.th)) (u-k)+1:=by
     rw [hsu,za7,if_pos (by rw [hgu];exact decide_eq_true h1)]
    refine⟨((cntQ (fun t=>decide ((ev.getD (k+t) ev0).th=e.th)) (u+1-k):Nat):Int),(zaj (by omega)).trans (by omega),?_⟩;refine DrawE.ord [] [0,1,2,3,4,5,6,7] (by kernel_rfl) ?_;refine⟨u,rfl,by omega,?_⟩;refine⟨i64 g.th,by have:=zac (zae hbE hatu) (i:=0) (v:=i64 g.th) rfl;exact this,?_⟩;refine⟨i64 e.th,zac (zab fE) (i:=0) rfl,?_⟩;refine brN (decide_eq_false (by omega)) ?_;refine nxI (by omega) ?_;exact⟨u+1,(cvE rfl rfl),⟨by omega,late rfl (by omega),fE,hbE⟩,zdc (by omega)⟩
   ·have h1:¬ g.th=e.th:=dF h1;have e1:cntQ (fun t=>decide ((ev.getD (k+t) ev0).th=e.th)) (u+1-k)=cntQ (fun t=>decide ((ev.getD (k+t) ev0).th=e.th)) (u-k):=by
     rw [hsu,za7,if_neg (by rw [hgu,decide_eq_false h1];decide)];rfl
    refine DrawE.ord [] [0,1,2,3,4,5,6,7] (by kernel_rfl) ?_;refine⟨u,rfl,by omega,?_⟩;refine⟨i64 g.th,by have:=zac (zae hbE hatu) (i:=0) (v:=i64 g.th) rfl;exact this,?_⟩;refine⟨i64 e.th,zac (zab fE) (i:=0) rfl,?_⟩;refine biE (fun h2=>?_) fun h2=>?_
    ·have h2:e.th<g.th:=dT h2;exact bad hbE (worse (by omega))
    ·have h2:¬ e.th<g.th:=dF h2;refine nxI (by omega) ?_;exact⟨u+1,⟨.cons rfl (.cons rfl (.cons rfl (.cons rfl (.cons (by rw [<- e1];rfl) (.cons rfl .nil))))),rfl⟩,⟨by omega,late rfl (by omega),fE,hbE⟩,zdc (by omega)⟩
  ·have hc:¬ (u:Int)<(i:Int):=dF hc;obtain rfl:u=i:=by omega
   have hle2:((List.range (u-k)).all fun t=>decide ((ev.getD (k+t) ev0).th<=e.th))=true:=by
    rw [List.all_eq_true];exact fun t ht=>decide_eq_true (hle t (List.mem_range.1 ht))
   rw [hle2,Bool.true_and] at spec;obtain⟨cn,hcn⟩:=nm (cntQ (fun t=>decide ((ev.getD (k+t) ev0).th=e.th)) (u-k));rw [<- hcn] at spec ⊢;have spec2:zdY ev k (u-k)=true↔0<=e.th/\e.th<=3/\e.p.toNat=cn/\1<=e.k.toNat/\e.k.toNat<=3/\(e.k.toNat=3->e.l.toNat=0/\e.v.toNat=0)/\(e.k.toNat<3->e.l.toNat<k):=by
    rw [spec];simp only [bAT,dE,znd]
   refine⟨_,zpN fM,?_⟩;refine biE (fun h1=>?_) fun h1=>?_
   ·refine brT ?_;refine brT ?_;refine brT ?_;refine brT ?_;refine brT ?_;refine brT ?_;simp only [dE,decide_eq_false_iff_not,Bool.not_eq_true',Bool.not_eq_false'] at h1;exact bad hbX (Bool.eq_false_iff.2 fun hx=>by have:=spec2.1 hx;omega)
   ·refine⟨_,zpN fM,?_⟩;refine biE (fun h2=>?_) fun h2=>?_
    ·refine brT ?_;refine brT ?_;refine brT ?_;refine brT ?_;refine brT ?_;simp only [dE,decide_eq_false_iff_not,Bool.not_eq_true',Bool.not_eq_false'] at h1 h2;exact bad hbX (Bool.eq_false_iff.2 fun hx=>by have:=spec2.1 hx;omega)
    ·refine⟨_,ztg fM,?_⟩;refine⟨(e.p.toNat:Int),zaN _,?_⟩;refine biE (fun h3=>?_) fun h3=>?_
     ·have h3:=notB h3;refine brT ?_;refine brT ?_;refine brT ?_;refine brT ?_;simp only [dE,decide_eq_false_iff_not,Bool.not_eq_true',Bool.not_eq_false'] at h1 h2 h3;exact bad hbX (Bool.eq_false_iff.2 fun hx=>by have:=spec2.1 hx;omega)
     ·have h3:=notF h3;refine⟨_,zbz fM,?_⟩;refine biE (fun h4=>?_) fun h4=>?_
      ·refine brT ?_;refine brT ?_;refine brT ?_;simp only [dE,decide_eq_false_iff_not,Bool.not_eq_true',Bool.not_eq_false'] at h1 h2 h3 h4;exact bad hbX (Bool.eq_false_iff.2 fun hx=>by have:=spec2.1 hx;omega)
      ·refine⟨_,zbz fM,?_⟩;refine biE (fun h5=>?_) fun h5=>?_
       ·refine brT ?_;refine brT ?_;simp only [dE,decide_eq_false_iff_not,Bool.not_eq_true',Bool.not_eq_false'] at h1 h2 h3 h4 h5;exact bad hbX (Bool.eq_false_iff.2 fun hx=>by have:=spec2.1 hx;omega)
       ·refine⟨_,zbz fM,?_⟩;refine biE (fun h6=>?_) fun h6=>?_
        ·refine⟨_,znF fM,?_⟩;refine biE (fun h7=>?_) fun h7=>?_
         ·have h7:=notB h7;refine brT ?_;refine brT ?_;simp only [dE,decide_eq_false_iff_not,Bool.not_eq_true',Bool.not_eq_false'] at h1 h2 h3 h4 h5 h6 h7;exact bad hbX (Bool.eq_false_iff.2 fun hx=>by have:=spec2.1 hx;omega)
         ·have h7:=notF h7;refine⟨_,ztf fM,?_⟩;refine biE (fun h8=>?_) fun h8=>?_
          ·have h8:=notB h8;refine brT ?_;simp only [dE,decide_eq_false_iff_not,Bool.not_eq_true',Bool.not_eq_false'] at h1 h2 h3 h4 h5 h6 h7 h8;exact bad hbX (Bool.eq_false_iff.2 fun hx=>by have:=spec2.1 hx;omega)
          ·have h8:=notF h8;refine⟨_,zbz fM,?_⟩;refine biE (fun h9=>?_) fun h9=>?_
           ·refine⟨_,znF fM,?_⟩;refine⟨(e.l.toNat:Int),zaN _,?_⟩;refine biE (fun h10=>?_) fun h10=>?_
            ·simp only [dE,decide_eq_false_iff_not,Bool.not_eq_true',Bool.not_eq_false'] at h1 h2 h3 h4 h5 h6 h7 h8 h9 h10;exact bad hbX (Bool.eq_false_iff.2 fun hx=>by have:=spec2.1 hx;omega)
            ·simp only [dE,decide_eq_false_iff_not,Bool.not_eq_true',Bool.not_eq_false'] at h1 h2 h3 h4 h5 h6 h7 h8 h9 h10;have one:zdY ev k (u-k)=true:=spec2.2 ⟨by omega,by omega,by omega,by omega,by omega,fun _=>⟨by omega,by omega⟩,fun _=>by omega⟩;refine nxI (by omega) ?_;exact⟨u+1,(cvE rfl rfl),⟨by omega,fun j hj=>by
              by_cases e2:j=u-k
              ·rw [e2];exact one
              ·exact hall j (by omega),hbX⟩,zdc (by omega)⟩
           ·refine brF ?_;simp only [dE,decide_eq_false_iff_not,Bool.not_eq_true',Bool.not_eq_false'] at h1 h2 h3 h4 h5 h6 h7 h8 h9;have one:zdY ev k (u-k)=true:=spec2.2 ⟨by omega,by omega,by omega,by omega,by omega,fun _=>⟨by omega,by omega⟩,fun _=>by omega⟩;refine nxI (by omega) ?_;exact⟨u+1,(cvE rfl rfl),⟨by omega,fun j hj=>by
             by_cases e2:j=u-k
             ·rw [e2];exact one
             ·exact hall j (by omega),hbX⟩,zdc (by omega)⟩
        ·refine brF ?_;refine⟨_,zbz fM,?_⟩;refine biE (fun h11=>?_) fun h11=>?_
         ·refine⟨_,znF fM,?_⟩;refine⟨(e.l.toNat:Int),zaN _,?_⟩;refine biE (fun h12=>?_) fun h12=>?_
          ·simp only [dE,decide_eq_false_iff_not,Bool.not_eq_true',Bool.not_eq_false'] at h1 h2 h3 h4 h5 h6 h11 h12;exact bad hbX (Bool.eq_false_iff.2 fun hx=>by have:=spec2.1 hx;omega)
          ·simp only [dE,decide_eq_false_iff_not,Bool.not_eq_true',Bool.not_eq_false'] at h1 h2 h3 h4 h5 h6 h11 h12;have one:zdY ev k (u-k)=true:=spec2.2 ⟨by omega,by omega,by omega,by omega,by omega,fun _=>⟨by omega,by omega⟩,fun _=>by omega⟩;refine nxI (by omega) ?_;exact⟨u+1,(cvE rfl rfl),⟨by omega,fun j hj=>by
            by_cases e2:j=u-k
            ·rw [e2];exact one
            ·exact hall j (by omega),hbX⟩,zdc (by omega)⟩
         ·refine brF ?_;simp only [dE,decide_eq_false_iff_not,Bool.not_eq_true',Bool.not_eq_false'] at h1 h2 h3 h4 h5 h6 h11;have one:zdY ev k (u-k)=true:=spec2.2 ⟨by omega,by omega,by omega,by omega,by omega,fun _=>⟨by omega,by omega⟩,fun _=>by omega⟩;refine nxI (by omega) ?_;exact⟨u+1,(cvE rfl rfl),⟨by omega,fun j hj=>by
           by_cases e2:j=u-k
           ·rw [e2];exact one
           ·exact hall j (by omega),hbX⟩,zdc (by omega)⟩
 ·have hc:¬ (i:Int)<(ev.length:Int):=dF hc;obtain rfl:i=ev.length:=by omega
  refine⟨?_,hbX⟩;unfold zg9;rw [zlH hg (by omega) fun j hj=>hall j (by omega)];rfl
end
def pl1 (x:ExD) (l a:Nat):Bool:=decide (zb3 x.co a+zcl x.co a+1=zlC x l)&&(!hasQ x.co a a&&((!decide (a=l)||decide (zb3 x.co a=0))&&(!decide (zcl x.co a=0)||decide (x.mem l=(evA x a).v))))
def pl2 (x:ExD) (l a b:Nat):Bool := !(!decide (b=a)&&zck x b l) || !(hasQ x.co a b == hasQ x.co b a)
def pl3 (x:ExD) (a b c:Nat):Bool := !(hasQ x.co a b&&hasQ x.co b c)||hasQ x.co a c
def plB (x:ExD) (l a b:Nat):Bool:=pl2 x l a b&&(List.range x.ev.length).all fun c=>pl3 x a b c
def plA (x:ExD) (l a:Nat):Bool := !zck x a l||(pl1 x l a&&(List.range x.ev.length).all fun b=>plB x l a b)
def plL (x:ExD) (locs l:Nat):Bool:=if locs<=l then decide (x.mem l=0) else (List.range x.ev.length).all fun a=>plA x l a
theorem zoF (x:ExD) (locs:Nat):zgp x locs=(List.range 6).all fun l=>plL x locs l:=rfl
theorem zdr {n i:Nat} {f:Nat->Bool} (hi:i<n) (h:f i=false):(List.range n).all f=false:=by
 rw [List.all_eq_false];exact⟨i,List.mem_range.2 hi,by rw [h];decide⟩
theorem zdR {n:Nat} {f:Nat->Bool} (h:∀ i,i<n->f i=true):(List.range n).all f=true:=by
 rw [List.all_eq_true];exact fun i hi=>h i (List.mem_range.1 hi)
theorem zby {k:Nat} {f:Nat->Bool} (h:∀ i,i<k->f i=true) (hk:f k=true):∀ i,i<k+1->f i=true:=fun i hi=>by
 by_cases e:i=k
 ·rw [e];exact hk
 ·exact h i (by omega)
theorem zkV (f:Nat->Bool) (n:Nat):cntQ f n<=n:=by
 unfold cntQ;have:=List.length_filter_le f (List.range n);rw [List.length_range] at this;exact this
theorem znJ {a b m:Nat}:decide (((a:Nat):Int)+((b:Nat):Int)=((m:Nat):Int)-1)=decide (a+b+1=m):=decide_eq_decide.2 (by omega)
theorem zew {a b:Nat}:decide ((a:Int)=(b:Int))=decide (a=b):=decide_eq_decide.2 Int.ofNat_inj
theorem znK {a:Nat}:decide ((0:Int)<(a:Int)) = !decide (a=0):=by
 rw [<- decide_not];exact decide_eq_decide.2 (by omega)
theorem zaH (a b:Bool):(a == b)=decide (a=b):=by cases a <;> cases b <;> rfl
theorem zjT {X:World} {b:Nat} {x:ExD} {q:Option Addr} {c l:Nat} (fx:zax X ⟨b,0,none⟩ (exC x q c)) (hl:l<6):X.cell? ⟨b,0+295+32+l*1,none⟩=some (u8 (x.mem l)):=by
 have h:=zns (x:=x) q c;have h2:(exC x q c)[327+l]?=some (u8 (x.mem l)):=by
  have h3:(((exC x q c).drop 327).take 6)[l]?=some (u8 (x.mem l)):=by
   rw [h];unfold seg;rw [List.getElem?_map,List.getElem?_range hl];rfl
  rw [List.getElem?_take_of_lt hl,List.getElem?_drop] at h3;exact h3
 have h4:=zac fx h2;rw [show 0+(327+l)=0+295+32+l*1 by omega] at h4;exact h4
section
variable {w:World} {c:Nat} {x:ExD} {q:Option Addr}
theorem zoE {locs:Nat} (hv:ExV w x q) (hpos:0<x.ev.length) (hco:x.co.n=x.ev.length) (hl6:locs<=6):CB 49 #[.agg (exC x q c).toArray,i64 (locs:Nat)] w (.bool (zgp x locs)):=by
 obtain⟨bq,oq,hqe,hbq,hat⟩:=zd7 hv.ev hpos;subst hqe;have h16:=hv.n;rw [zoF];refine cofM 153 [.agg (exC x (some ⟨bq,oq,none⟩) c).toArray,i64 (locs:Nat)] (.c .p (.c .p (.s (.s .p (.b (.l (.s .p (.s (.b (.c .p (.c .p (.c .p (.s .p (.b (.l (.s .p (.s (.b (.c .p (.c .p (.c .p (.s .p (.b (.l (.s .p (.s (.b (.c .p .p)) .p))))))))) .p))))))))) .p))))) .p))) Tryz.func49 ?_;obtain⟨L,hL⟩:=nm (w.heap.size);refine⟨Unit,fun _=>⟨[(1,i64 (locs:Nat)),(2,At0 L)],[]⟩,fun _ X=>ExH X L x (some ⟨bq,oq,none⟩) c/\Bw w X,⟨(),⟨.cons rfl (.cons (by rw [hL];rfl) .nil),rfl⟩,by rw [hL];exact hnew w _,(zba w _)⟩,?_⟩;rintro _ X ⟨fX,hbX⟩;refine⟨Unit,fun _=>⟨[(1,i64 (locs:Nat)),(2,At0 L),(5,.slice (some ⟨bq,oq,none⟩) x.ev.length c),(6,i64 x.ev.length)],[]⟩,fun _ Z=>ExH Z L x (some ⟨bq,oq,none⟩) c/\Bw w Z,?_,?_⟩
 ·have dX:Bw X X.drew:=(Below.refl _ _).drew;refine DrawE.ord [] [0,1,2,3,4,5,6] (by kernel_rfl) ?_;have fX:=zaa dX fX;refine⟨_,zaz (zab fX),?_⟩;refine⟨_,zaz (zab fX),?_⟩;exact⟨(),⟨.cons rfl (.cons rfl (.cons rfl (.cons rfl (.nil)))),rfl⟩,fX,(zst hbX dX)⟩
 clear fX hbX;clear X;rintro _ X ⟨fX,hbX⟩;refine⟨Nat,fun l=>⟨[(1,i64 (locs:Nat)),(2,At0 L),(5,.slice (some ⟨bq,oq,none⟩) x.ev.length c),(6,i64 x.ev.length),(7,i64 (l:Nat))],[]⟩,fun l Z=>l<=6/\(∀ i,i<l->plL x locs i=true)/\ExH Z L x (some ⟨bq,oq,none⟩) c/\Bw w Z,fun l=>6-l,0,⟨.cons rfl (.cons rfl (.cons rfl (.cons rfl (.cons rfl (.nil))))),rfl⟩,⟨Nat.zero_le _,fun i hi=>by omega,fX,hbX⟩,?_⟩;clear fX hbX;rintro l X ⟨hl,hall,fX,hbX⟩;dsimp only;refine biE (fun hc=>?_) fun hc=>?_
 ·have hc:(l:Int)<6:=dT hc;have hln:l<6:=by omega
  refine⟨Unit,fun _=>⟨[(1,i64 (locs:Nat)),(2,At0 L),(5,.slice (some ⟨bq,oq,none⟩) x.ev.length c),(6,i64 x.ev.length),(7,i64 (l:Nat))],[]⟩,fun _ Z=>¬ locs<=l/\ExH Z L x (some ⟨bq,oq,none⟩) c/\Bw w Z,?_,?_⟩
  ·refine biE (fun h1=>?_) fun h1=>?_
   ·have h1:(locs:Int)<=(l:Int):=dT h1;have hs:plL x locs l=decide (x.mem l=0):=if_pos (by omega);refine⟨l,rfl,by omega,?_⟩;refine⟨u8 (x.mem l),zjT (zab fX) (by omega),?_⟩;refine biE (fun h1=>?_) fun h1=>?_
    ·have h1:=zrM.symm.trans (notB h1);exact⟨rb (zdr hln (by rw [hs,h1])).symm,hbX⟩
    ·have h1:=zrM.symm.trans (notF h1);refine nxI (by omega) ?_;exact⟨l+1,⟨.cons rfl (.cons rfl (.cons rfl (.cons rfl (.cons rfl (.nil))))),rfl⟩,⟨hln,zby hall (by rw [hs,h1]),fX,hbX⟩,zdc (by omega)⟩
   ·have h1:¬ (locs:Int)<=(l:Int):=dF h1;exact⟨(),⟨.cons rfl (.cons rfl (.cons rfl (.cons rfl (.cons rfl (.nil))))),rfl⟩,by omega,fX,hbX⟩
  clear fX hbX;rintro _ X ⟨h1,fX,hbX⟩;have hs:plL x locs l=(List.range x.ev.length).all fun a=>plA x l a:=if_neg h1;refine⟨Unit,fun _=>⟨[(1,i64 (locs:Nat)),(2,At0 L),(5,.slice (some ⟨bq,oq,none⟩) x.ev.length c),(6,i64 x.ev.length),(7,i64 (l:Nat)),(8,i64 (0:Nat))],[]⟩,fun _ Z=>ExH Z L x (some ⟨bq,oq,none⟩) c/\Bw w Z,⟨(),⟨.cons rfl (.cons rfl (.cons rfl (.cons rfl (.cons rfl (.cons rfl (.nil)))))),rfl⟩,fX,hbX⟩,?_⟩;clear fX hbX;rintro _ X ⟨fX,hbX⟩;refine⟨Unit,fun _=>⟨[(1,i64 (locs:Nat)),(2,At0 L),(5,.slice (some ⟨bq,oq,none⟩) x.ev.length c),(6,i64 x.ev.length),(7,i64 (l:Nat)),(8,i64 (zlC x l:Nat))],[]⟩,fun _ Z=>ExH Z L x (some ⟨bq,oq,none⟩) c/\Bw w Z,?_,?_⟩
  ·refine⟨Nat,fun u=>⟨[(1,i64 (locs:Nat)),(2,At0 L),(5,.slice (some ⟨bq,oq,none⟩) x.ev.length c),(6,i64 x.ev.length),(7,i64 (l:Nat)),(8,i64 (cntQ (fun a=>zck x a l) u:Nat)),(9,i64 (u:Nat))],[]⟩,fun u Z=>u<=x.ev.length/\ExH Z L x (some ⟨bq,oq,none⟩) c/\Bw w Z,fun u=>x.ev.length-u,0,⟨.cons rfl (.cons rfl (.cons rfl (.cons rfl (.cons rfl (.cons rfl (.cons rfl (.nil))))))),rfl⟩,⟨Nat.zero_le _,fX,hbX⟩,?_⟩;clear fX hbX;clear X;rintro u X ⟨hu,fX,hbX⟩;dsimp only;refine biE (fun hc=>?_) fun hc=>?_
   ·have hc:(u:Int)<(x.ev.length:Int):=dT hc;have hun:u<x.ev.length:=(by omega);have hcl:=zkV (fun a=>zck x a l) u;refine cmo (zhV (x:=x) (a:=u) (loc:=l) (hv.below hbX).ev (by omega)) ?_;rintro e _ ⟨rfl,rfl⟩;refine biE (fun h=>?_) fun h=>?_
    ·have h:zck x u l=true:=h;have e1:cntQ (fun a=>zck x a l) (u+1)=cntQ (fun a=>zck x a l) u+1:=(by rw [za7,if_pos h]);refine⟨((cntQ (fun a=>zck x a l) (u+1):Nat):Int),(zaj (by omega)).trans (by omega),?_⟩;refine nxI (by omega) ?_;exact⟨u+1,⟨.cons rfl (.cons rfl (.cons rfl (.cons rfl (.cons rfl (.cons rfl (.cons rfl (.nil))))))),rfl⟩,⟨hun,fX,hbX⟩,zdc (by omega)⟩
    ·have h:zck x u l=false:=h;have e1:cntQ (fun a=>zck x a l) (u+1)=cntQ (fun a=>zck x a l) u:=(by rw [za7,if_neg (by rw [h];decide)];rfl);refine nxI (by omega) ?_;exact⟨u+1,⟨.cons rfl (.cons rfl (.cons rfl (.cons rfl (.cons rfl (.cons (by rw [e1];rfl) (.cons rfl .nil)))))),rfl⟩,⟨hun,fX,hbX⟩,zdc (by omega)⟩
   ·have hc:¬ (u:Int)<(x.ev.length:Int):=dF hc;have hu2:cntQ (fun a=>zck x a l) u=zlC x l:=(by rw [show u=x.ev.length by omega];rfl);exact⟨(),⟨.cons rfl (.cons rfl (.cons rfl (.cons rfl (.cons rfl (.cons (by rw [<- hu2];rfl) .nil))))),rfl⟩,fX,hbX⟩
  clear fX hbX;rintro _ X ⟨fX,hbX⟩;obtain⟨many,hmq⟩:∃ many,zlC x l=many:=⟨_,rfl⟩;have hml:many<=x.ev.length:=by rw [<- hmq];exact zkV _ _
  rw [hmq];refine⟨Nat,fun a=>⟨[(1,i64 (locs:Nat)),(2,At0 L),(5,.slice (some ⟨bq,oq,none⟩) x.ev.length c),(6,i64 x.ev.length),(7,i64 (l:Nat)),(8,i64 (many:Nat)),(10,i64 (a:Nat))],[]⟩,fun a Z=>a<=x.ev.length/\(∀ i,i<a->plA x l i=true)/\ExH Z L x (some ⟨bq,oq,none⟩) c/\Bw w Z,fun a=>x.ev.length-a,0,⟨.cons rfl (.cons rfl (.cons rfl (.cons rfl (.cons rfl (.cons rfl (.cons rfl (.nil))))))),rfl⟩,⟨Nat.zero_le _,fun i hi=>by omega,fX,hbX⟩,?_⟩;clear fX hbX;rintro a X ⟨ha,hallA,fX,hbX⟩;dsimp only;refine biE (fun hc=>?_) fun hc=>?_
  ·have hc:(a:Int)<(x.ev.length:Int):=dT hc;have han:a<x.ev.length:=by omega
   refine⟨Unit,fun _=>⟨[(1,i64 (locs:Nat)),(2,At0 L),(5,.slice (some ⟨bq,oq,none⟩) x.ev.length c),(6,i64 x.ev.length),(7,i64 (l:Nat)),(8,i64 (many:Nat)),(10,i64 (a:Nat))],[]⟩,fun _ Z=>zck x a l=true/\ExH Z L x (some ⟨bq,oq,none⟩) c/\Bw w Z,?_,?_⟩
   ·refine cmo (zhV (x:=x) (a:=a) (loc:=l) (hv.below hbX).ev (by omega)) ?_;rintro e _ ⟨rfl,rfl⟩;refine biE (fun h0=>?_) fun h0=>?_
    ·have h0:zck x a l=false:=notB h0;refine nxI (by omega) ?_;exact⟨a+1,⟨.cons rfl (.cons rfl (.cons rfl (.cons rfl (.cons rfl (.cons rfl (.cons rfl (.nil))))))),rfl⟩,⟨han,zby hallA (by unfold plA;rw [h0];rfl),fX,hbX⟩,zdc (by omega)⟩
    ·have h0:zck x a l=true:=notF h0;exact⟨(),⟨.cons rfl (.cons rfl (.cons rfl (.cons rfl (.cons rfl (.cons rfl (.cons rfl (.nil))))))),rfl⟩,h0,fX,hbX⟩
   clear fX hbX;rintro _ X ⟨h0,fX,hbX⟩;have hpA:plA x l a=(pl1 x l a&&(List.range x.ev.length).all fun b=>plB x l a b):=by unfold plA;rw [h0];rfl
   have hA0:zb3 x.co a<=x.ev.length:=by unfold zb3;rw [hco];exact zkV _ _
   have hB0:zcl x.co a<=x.ev.length:=by unfold zcl;rw [hco];exact zkV _ _
   refine⟨Unit,fun _=>⟨[(1,i64 (locs:Nat)),(2,At0 L),(5,.slice (some ⟨bq,oq,none⟩) x.ev.length c),(6,i64 x.ev.length),(7,i64 (l:Nat)),(8,i64 (many:Nat)),(10,i64 (a:Nat)),(11,i64 (zb3 x.co a:Nat)),(12,i64 (zcl x.co a:Nat))],[]⟩,fun _ Z=>ExH Z L x (some ⟨bq,oq,none⟩) c/\Bw w Z,?_,?_⟩
   ·have dX:Bw X X.drew:=(Below.refl _ _).drew;refine DrawE.ord [] [0,1,2,4,5,6,3,7,8,9] (by kernel_rfl) ?_;have fX:=zaa dX fX;replace hbX:=zst hbX dX;clear dX;refine⟨_,zad _,r_co fX,hlt fX,?_⟩;refine⟨_,zad _,r_co fX,hlt fX,?_⟩;refine cmo (zgd (n:=x.ev.length) (a:=a) hv.co hco (by omega) (by omega)) ?_;rintro e U ⟨rfl,hbU⟩;refine⟨hbU,?_⟩;have fX:=zaa hbU fX;replace hbX:=zst hbX hbU;refine cmo (zil (n:=x.ev.length) (a:=a) hv.co hco (by omega) (by omega)) ?_;rintro e U ⟨rfl,hbU⟩;refine⟨hbU,?_⟩;have fX:=zaa hbU fX;replace hbX:=zst hbX hbU;exact⟨(),⟨.cons rfl (.cons rfl (.cons rfl (.cons rfl (.cons rfl (.cons rfl (.cons rfl (.cons rfl (.cons rfl (.nil))))))))),rfl⟩,fX,hbX⟩
   clear fX hbX;rintro _ X ⟨fX,hbX⟩;have badA:pl1 x l a=false->(List.range 6).all (fun l=>plL x locs l)=false:=fun h=>zdr hln (by rw [hs];exact zdr han (by rw [hpA,h];rfl));have badB:∀ b,b<x.ev.length->plB x l a b=false->(List.range 6).all (fun l=>plL x locs l)=false:=fun b hb h=>zdr hln (by rw [hs];exact zdr han (by rw [hpA,zdr hb h,Bool.and_false]));refine⟨Unit,fun _=>⟨[(1,i64 (locs:Nat)),(2,At0 L),(5,.slice (some ⟨bq,oq,none⟩) x.ev.length c),(6,i64 x.ev.length),(7,i64 (l:Nat)),(8,i64 (many:Nat)),(10,i64 (a:Nat))],[]⟩,fun _ Z=>pl1 x l a=true/\ExH Z L x (some ⟨bq,oq,none⟩) c/\Bw w Z,?_,?_⟩
   ·refine DrawE.ord [] [0,1,2,3,4,5,6,7,8,9,10,11,12,13,14,15,16,17,18,19,20,21,22,23,24,25,26,27,28,29,30,31,32,33,34,35,36,37,38] (by kernel_rfl) ?_;have fX:=hdr fX;replace hbX:=hbX.trans ((Below.refl _ _).drew.mono hbX.size);refine⟨_,zaj (by omega),?_⟩;refine⟨_,zaj (by omega),?_⟩;refine biE (fun h1=>?_) fun h1=>?_
    ·have h1:=(znJ (a:=zb3 x.co a) (b:=zcl x.co a) (m:=many)).symm.trans (notB h1);refine brT ?_;refine brT ?_;refine brT ?_;exact⟨rb (badA (by unfold pl1;rw [hmq];simp [h1])).symm,hbX⟩
    ·have h1:=(znJ (a:=zb3 x.co a) (b:=zcl x.co a) (m:=many)).symm.trans (notF h1);refine⟨_,zad _,r_co fX,hlt fX,?_⟩;refine cmo (zbu hv.co (by omega) (by omega)) ?_;rintro e U ⟨rfl,hbU⟩;refine⟨hbU,?_⟩;have fX:=zaa hbU fX;replace hbX:=zst hbX hbU;refine biE (fun h2=>?_) fun h2=>?_
     ·refine brT ?_;refine brT ?_;exact⟨rb (badA (by unfold pl1;rw [hmq];simp [h1,h2])).symm,hbX⟩
     ·refine biE (fun h3=>?_) fun h3=>?_
      ·have h3:=(zew (a:=a) (b:=l)).symm.trans h3;refine biE (fun h4=>?_) fun h4=>?_
       ·have h4:=notB ((znK (a:=zb3 x.co a)).symm.trans h4);refine brT ?_;exact⟨rb (badA (by unfold pl1;rw [hmq];simp [h1,h2,h3,h4])).symm,hbX⟩
       ·have h4:=notF ((znK (a:=zb3 x.co a)).symm.trans h4);refine biE (fun h5=>?_) fun h5=>?_
        ·have h5:=(zew (a:=zcl x.co a) (b:=0)).symm.trans h5;refine⟨l,rfl,by omega,?_⟩;refine⟨u8 (x.mem l),zjT (zab fX) (by omega),?_⟩;refine⟨a,rfl,by omega,?_⟩;refine⟨_,zo5 (zae hbX (hat a (by omega))),?_⟩;refine biE (fun h6=>?_) fun h6=>?_
         ·have h6:=za4.symm.trans (notB h6);exact⟨rb (badA (by unfold pl1;rw [hmq];simp [h1,h2,h3,h4,h5,h6])).symm,hbX⟩
         ·have h6:=za4.symm.trans (notF h6);have hp1:pl1 x l a=true:=(by unfold pl1;rw [hmq];simp [h1,h2,h3,h4,h5,h6]);exact⟨(),⟨.cons rfl (.cons rfl (.cons rfl (.cons rfl (.cons rfl (.cons rfl (.cons rfl (.nil))))))),rfl⟩,hp1,fX,hbX⟩
        ·have h5:=(zew (a:=zcl x.co a) (b:=0)).symm.trans h5;refine brF ?_;have hp1:pl1 x l a=true:=(by unfold pl1;rw [hmq];simp [h1,h2,h3,h4,h5]);exact⟨(),⟨.cons rfl (.cons rfl (.cons rfl (.cons rfl (.cons rfl (.cons rfl (.cons rfl (.nil))))))),rfl⟩,hp1,fX,hbX⟩
      ·have h3:=(zew (a:=a) (b:=l)).symm.trans h3;refine brF ?_;refine biE (fun h7=>?_) fun h7=>?_
       ·have h7:=(zew (a:=zcl x.co a) (b:=0)).symm.trans h7;refine⟨l,rfl,by omega,?_⟩;refine⟨u8 (x.mem l),zjT (zab fX) (by omega),?_⟩;refine⟨a,rfl,by omega,?_⟩;refine⟨_,zo5 (zae hbX (hat a (by omega))),?_⟩;refine biE (fun h8=>?_) fun h8=>?_
        ·have h8:=za4.symm.trans (notB h8);exact⟨rb (badA (by unfold pl1;rw [hmq];simp [h1,h2,h3,h7,h8])).symm,hbX⟩
        ·have h8:=za4.symm.trans (notF h8);have hp1:pl1 x l a=true:=(by unfold pl1;rw [hmq];simp [h1,h2,h3,h7,h8]);exact⟨(),⟨.cons rfl (.cons rfl (.cons rfl (.cons rfl (.cons rfl (.cons rfl (.cons rfl (.nil))))))),rfl⟩,hp1,fX,hbX⟩
       ·have h7:=(zew (a:=zcl x.co a) (b:=0)).symm.trans h7;refine brF ?_;have hp1:pl1 x l a=true:=(by unfold pl1;rw [hmq];simp [h1,h2,h3,h7]);exact⟨(),⟨.cons rfl (.cons rfl (.cons rfl (.cons rfl (.cons rfl (.cons rfl (.cons rfl (.nil))))))),rfl⟩,hp1,fX,hbX⟩
   clear fX hbX;rintro _ X ⟨hp1,fX,hbX⟩;refine⟨Nat,fun b=>⟨[(1,i64 (locs:Nat)),(2,At0 L),(5,.slice (some ⟨bq,oq,none⟩) x.ev.length c),(6,i64 x.ev.length),(7,i64 (l:Nat)),(8,i64 (many:Nat)),(10,i64 (a:Nat)),(13,i64 (b:Nat))],[]⟩,fun b Z=>b<=x.ev.length/\(∀ i,i<b->plB x l a i=true)/\ExH Z L x (some ⟨bq,oq,none⟩) c/\Bw w Z,fun b=>x.ev.length-b,0,⟨.cons rfl (.cons rfl (.cons rfl (.cons rfl (.cons rfl (.cons rfl (.cons rfl (.cons rfl (.nil)))))))),rfl⟩,⟨Nat.zero_le _,fun i hi=>by omega,fX,hbX⟩,?_⟩;clear fX hbX;rintro b X ⟨hb,hallB,fX,hbX⟩;dsimp only;refine biE (fun hc=>?_) fun hc=>?_
   ·have hc:(b:Int)<(x.ev.length:Int):=dT hc;have hbn:b<x.ev.length:=(by omega);refine⟨Unit,fun _=>⟨[(1,i64 (locs:Nat)),(2,At0 L),(5,.slice (some ⟨bq,oq,none⟩) x.ev.length c),(6,i64 x.ev.length),(7,i64 (l:Nat)),(8,i64 (many:Nat)),(10,i64 (a:Nat)),(13,i64 (b:Nat))],[]⟩,fun _ Z=>pl2 x l a b=true/\ExH Z L x (some ⟨bq,oq,none⟩) c/\Bw w Z,?_,?_⟩
    ·have dX:Bw X X.drew:=(Below.refl _ _).drew;refine DrawE.ord [] [0,1,2,3,4,5,6,7,8,9,10,11,12,13,15,16,17,18,14,19,20,21] (by kernel_rfl) ?_;have fX:=zaa dX fX;replace hbX:=zst hbX dX;clear dX;refine biE (fun h1=>?_) fun h1=>?_
     ·have h1:=(zew (a:=b) (b:=a)).symm.trans (notB h1);refine cmo (zhV (x:=x) (a:=b) (loc:=l) (hv.below hbX).ev (by omega)) ?_;rintro e _ ⟨rfl,rfl⟩;refine⟨Below.refl _ _,?_⟩;refine biE (fun h2=>?_) fun h2=>?_
      ·refine⟨_,zad _,r_co fX,hlt fX,?_⟩;refine⟨_,zad _,r_co fX,hlt fX,?_⟩;refine cmo (zbu hv.co (by omega) (by omega)) ?_;rintro e U ⟨rfl,hbU⟩;refine⟨hbU,?_⟩;have fX:=zaa hbU fX;replace hbX:=zst hbX hbU;refine cmo (zbu hv.co (by omega) (by omega)) ?_;rintro e U ⟨rfl,hbU⟩;refine⟨hbU,?_⟩;have fX:=zaa hbU fX;replace hbX:=zst hbX hbU;refine⟨_,fun w=>zgQ _ _ (hasQ (x.co) a b) (hasQ (x.co) b a) w,?_⟩;refine biE (fun h3=>?_) fun h3=>?_
       ·exact⟨rb (badB b hbn (by unfold plB;rw [show pl2 x l a b=false by unfold pl2;simp [zaH,h1,h2,h3]];rfl)).symm,hbX⟩
       ·have hp2:pl2 x l a b=true:=(by unfold pl2;simp [zaH,h1,h2,h3]);exact⟨(),⟨.cons rfl (.cons rfl (.cons rfl (.cons rfl (.cons rfl (.cons rfl (.cons rfl (.cons rfl (.nil)))))))),rfl⟩,hp2,fX,hbX⟩
      ·refine brF ?_;have hp2:pl2 x l a b=true:=(by unfold pl2;simp [zaH,h1,h2]);exact⟨(),⟨.cons rfl (.cons rfl (.cons rfl (.cons rfl (.cons rfl (.cons rfl (.cons rfl (.cons rfl (.nil)))))))),rfl⟩,hp2,fX,hbX⟩
     ·have h1:=(zew (a:=b) (b:=a)).symm.trans (notF h1);refine brF ?_;refine brF ?_;have hp2:pl2 x l a b=true:=(by unfold pl2;simp [zaH,h1]);exact⟨(),⟨.cons rfl (.cons rfl (.cons rfl (.cons rfl (.cons rfl (.cons rfl (.cons rfl (.cons rfl (.nil)))))))),rfl⟩,hp2,fX,hbX⟩
    clear fX hbX;rintro _ X ⟨hp2,fX,hbX⟩;refine⟨Nat,fun d=>⟨[(1,i64 (locs:Nat)),(2,At0 L),(5,.slice (some ⟨bq,oq,none⟩) x.ev.length c),(6,i64 x.ev.length),(7,i64 (l:Nat)),(8,i64 (many:Nat)),(10,i64 (a:Nat)),(13,i64 (b:Nat)),(14,i64 (d:Nat))],[]⟩,fun d Z=>d<=x.ev.length/\(∀ i,i<d->pl3 x a b i=true)/\ExH Z L x (some ⟨bq,oq,none⟩) c/\Bw w Z,fun d=>x.ev.length-d,0,⟨.cons rfl (.cons rfl (.cons rfl (.cons rfl (.cons rfl (.cons rfl (.cons rfl (.cons rfl (.cons rfl (.nil))))))))),rfl⟩,⟨Nat.zero_le _,fun i hi=>by omega,fX,hbX⟩,?_⟩;clear fX hbX;rintro d X ⟨hd,hallC,fX,hbX⟩;dsimp only;refine biE (fun hc=>?_) fun hc=>?_
    ·have hc:(d:Int)<(x.ev.length:Int):=dT hc;have hdn:d<x.ev.length:=(by omega);refine⟨_,zad _,r_co fX,hlt fX,?_⟩;refine cmo (zbu hv.co (by omega) (by omega)) ?_;rintro e U ⟨rfl,hbU⟩;have fX:=zaa hbU fX;replace hbX:=zst hbX hbU;refine biE (fun h1=>?_) fun h1=>?_
     ·refine⟨_,zad _,r_co fX,hlt fX,?_⟩;refine cmo (zbu hv.co (by omega) (by omega)) ?_;rintro e U ⟨rfl,hbU⟩;have fX:=zaa hbU fX;replace hbX:=zst hbX hbU;refine biE (fun h2=>?_) fun h2=>?_
      ·refine⟨_,zad _,r_co fX,hlt fX,?_⟩;refine cmo (zbu hv.co (by omega) (by omega)) ?_;rintro e U ⟨rfl,hbU⟩;have fX:=zaa hbU fX;replace hbX:=zst hbX hbU;refine biE (fun h3=>?_) fun h3=>?_
       ·have h3:=notB h3;exact⟨rb (badB b hbn (by unfold plB;rw [zdr hdn (show pl3 x a b d=false by unfold pl3;simp [h1,h2,h3]),Bool.and_false])).symm,hbX⟩
       ·have h3:=notF h3;refine nxI (by omega) ?_;exact⟨d+1,⟨.cons rfl (.cons rfl (.cons rfl (.cons rfl (.cons rfl (.cons rfl (.cons rfl (.cons rfl (.cons rfl (.nil))))))))),rfl⟩,⟨hdn,zby hallC (show pl3 x a b d=true by unfold pl3;simp [h1,h2,h3]),fX,hbX⟩,zdc (by omega)⟩
      ·refine brF ?_;refine nxI (by omega) ?_;exact⟨d+1,⟨.cons rfl (.cons rfl (.cons rfl (.cons rfl (.cons rfl (.cons rfl (.cons rfl (.cons rfl (.cons rfl (.nil))))))))),rfl⟩,⟨hdn,zby hallC (show pl3 x a b d=true by unfold pl3;simp [h1,h2]),fX,hbX⟩,zdc (by omega)⟩
     ·refine brF ?_;refine brF ?_;refine nxI (by omega) ?_;exact⟨d+1,⟨.cons rfl (.cons rfl (.cons rfl (.cons rfl (.cons rfl (.cons rfl (.cons rfl (.cons rfl (.cons rfl (.nil))))))))),rfl⟩,⟨hdn,zby hallC (show pl3 x a b d=true by unfold pl3;simp [h1]),fX,hbX⟩,zdc (by omega)⟩
    ·have hc:¬ (d:Int)<(x.ev.length:Int):=dF hc;have hde:d=x.ev.length:=(by omega);clear hc;refine nxI (by omega) ?_;exact⟨b+1,⟨.cons rfl (.cons rfl (.cons rfl (.cons rfl (.cons rfl (.cons rfl (.cons rfl (.cons rfl (.nil)))))))),rfl⟩,⟨hbn,zby hallB (by unfold plB;rw [hp2,zdR fun i hi=>hallC i (by omega)];rfl),fX,hbX⟩,zdc (by omega)⟩
   ·have hc:¬ (b:Int)<(x.ev.length:Int):=dF hc;have hbe:b=x.ev.length:=(by omega);clear hc;refine nxI (by omega) ?_;exact⟨a+1,⟨.cons rfl (.cons rfl (.cons rfl (.cons rfl (.cons rfl (.cons rfl (.cons rfl (.nil))))))),rfl⟩,⟨han,zby hallA (by rw [hpA,hp1,zdR fun i hi=>hallB i (by omega)];rfl),fX,hbX⟩,zdc (by omega)⟩
  ·have hc:¬ (a:Int)<(x.ev.length:Int):=dF hc;have hae:a=x.ev.length:=by omega
   clear hc;refine nxI (by omega) ?_;exact⟨l+1,⟨.cons rfl (.cons rfl (.cons rfl (.cons rfl (.cons rfl (.nil))))),rfl⟩,⟨hln,zby hall (by rw [hs,zdR fun i hi=>hallA i (by omega)]),fX,hbX⟩,zdc (by omega)⟩
 ·have hc:¬ (l:Int)<6:=dF hc;have hle:l=6:=by omega
  clear hc;subst hle;exact⟨rb (zdR hall).symm,hbX⟩
end
def pr1 (x:ExD) (a b:Nat):Bool:=hasQ x.po a b == poQ x a b
def pr2 (x:ExD) (a b:Nat):Bool := !hasQ x.rf a b||(isW x a&&(isR x b&&(zeq x a b&&decide ((evA x a).v=(evA x b).v))))
def pr3 (x:ExD) (a b:Nat):Bool := !hasQ x.co a b||(isW x a&&(isW x b&&zeq x a b))
def pr4 (x:ExD) (a b:Nat):Bool:=(!hasQ x.dt a b||(poQ x a b&&(isR x a&&isW x b)))&&((!hasQ x.ct a b||(poQ x a b&&isR x a))&&(!hasQ x.rm a b||(poQ x a b&&(isR x a&&(isW x b&&zeq x a b)))))
theorem zgt (x:ExD) (a b:Nat):zgu x a b=(pr1 x a b&&(pr2 x a b&&(pr3 x a b&&pr4 x a b))):=rfl
theorem zfK {a:Nat}:decide ((1:Int)<(a:Int)) = !decide (a<=1):=by
 rw [<- decide_not];exact decide_eq_decide.2 (by omega)
theorem zm6 (x y:Operand) (a b:Bool) (w:World):(do eqGuard .neq 4 x y (.bool a) (.bool b);binOp .neq 4 (.bool a) (.bool b)).run Tryz.prog w = .ok (.bool (!decide (a=b))) w:=by
 have h:(Op.equal 4 (.bool a) (.bool b)).run Tryz.prog w = .ok (decide (a=b)) w:=zkP 9999 a b w;have h1:(eqGuard .neq 4 x y (.bool a) (.bool b)).run Tryz.prog w = .ok () w:=rfl;rw [Sem.run_bind,h1];simp only [Result.andThen_ok,binOp,Sem.run_bind,h,Sem.run_pure]
abbrev zlu (x:ExD):List Value:=relC x.po++(relC x.rf++(relC x.co++(relC x.dt++(relC x.ct++relC x.rm))))
theorem zp3 {X:World} {g:Nat} {x:ExD} (h:X.heap[g]?=some (.cells (zlu x).toArray 27 (0,0))):SlR relE X (some ⟨g,0,none⟩) (zc6 x) :=
 SlR.of_cells (hlt h) (by
  have:(zc6 x).flatMap relE.enc=zlu x:=by
   unfold zc6 zlu;rw [List.flatMap_cons,List.flatMap_cons,List.flatMap_cons,List.flatMap_cons,List.flatMap_cons,List.flatMap_cons,List.flatMap_nil,List.append_nil];rfl
  rw [this];exact zab h)
section
variable {w:World} {c:Nat} {x:ExD} {q:Option Addr}
theorem zoc (hv:ExV w x q):CB 9 #[.agg (exC x q c).toArray] w (.bool (za5 x)):=by
 rw [zmE ⟨hv.po,hv.rf,hv.co,hv.dt,hv.ct,hv.rm⟩];refine cofM 278 [.agg (exC x q c).toArray] (.c .p (.c .p (.c .p (.c .p (.c .p (.c .p (.c (.s .p (.b (.l (.s .p (.s (.b (.c .p (.b (.l (.s .p (.s (.b (.c .p (.c .p (.c .p (.c .p (.c .p .p)))))) .p)))))) .p))))) (.c .p .p)))))))) Tryz.func9 ?_;obtain⟨L,hL⟩:=nm (w.heap.size);have h16:=hv.n;refine⟨Unit,fun _=>⟨[(1,At0 L)],[]⟩,fun _ X=>ExH X L x q c/\Bw w X,⟨(),⟨.cons (by rw [hL];rfl) .nil,rfl⟩,by rw [hL];exact hnew w _,(zba w _)⟩,?_⟩;rintro _ X ⟨fX,hbX⟩;refine⟨Unit,fun _=>⟨[(1,At0 L),(3,.slice q x.ev.length c),(4,i64 x.ev.length)],[]⟩,fun _ Z=>ExH Z L x q c/\Bw w Z,?_,?_⟩
 ·have dX:Bw X X.drew:=(Below.refl _ _).drew;refine DrawE.ord [] [0,1,2,3,4,5,6] (by kernel_rfl) ?_;have fX:=zaa dX fX;refine⟨_,zaz (zab fX),?_⟩;refine⟨_,zaz (zab fX),?_⟩;exact⟨(),⟨.cons rfl (.cons rfl (.cons rfl (.nil))),rfl⟩,fX,(zst hbX dX)⟩
 clear fX hbX;rintro _ X ⟨fX,hbX⟩;refine⟨Unit,fun _=>⟨[(1,At0 L),(3,.slice q x.ev.length c),(4,i64 x.ev.length),(5,zg9 x.ev)],[]⟩,fun _ Z=>ExH Z L x q c/\Bw w Z,?_,?_⟩
 ·refine cmo (zoX (hv.below hbX).ev (by omega)) ?_;rintro e U ⟨rfl,hbU⟩;exact⟨(),⟨.cons rfl (.cons rfl (.cons rfl (.cons rfl (.nil)))),rfl⟩,zaa hbU fX,(zst hbX hbU)⟩
 clear fX hbX;rintro _ X ⟨fX,hbX⟩;refine⟨Nat,fun locs=>⟨[(1,At0 L),(3,.slice q x.ev.length c),(4,i64 x.ev.length),(5,i64 (locs:Nat))],[]⟩,fun locs Z=>zbU x.ev=some locs/\ExH Z L x q c/\Bw w Z,?_,?_⟩
 ·cases hh:zbU x.ev with
  | none =>
   have e1:zg9 x.ev=i64 (-1):=by unfold zg9;rw [hh]
   rw [e1];refine brE (decide_eq_true (by decide)) ?_;exact⟨rb (by unfold zdU;rw [hh]),hbX⟩
  | some locs =>
   have e1:zg9 x.ev=i64 (locs:Nat):=by unfold zg9;rw [hh]
   rw [e1];refine brN (decide_eq_false (by omega)) ?_;exact⟨locs,⟨.cons rfl (.cons rfl (.cons rfl (.cons rfl (.nil)))),rfl⟩,rfl,fX,hbX⟩
 clear fX hbX;rintro locs X ⟨hh,fX,hbX⟩;obtain⟨hl,h48,h1,h6,hev⟩:=(zej x.ev locs).1 hh;have hle:locs<=x.ev.length:=by rw [hl];exact zkH _
 have hright:zdU x=(za9 x&&(zeo x.ev.length (zgu x)&&((List.range x.ev.length).all (zeJ x)&&zgp x locs))):=by unfold zdU;rw [hh]
 obtain⟨bq,oq,hqe,hbq,hat⟩:=zd7 hv.ev (by omega);subst hqe;refine⟨Nat,fun g=>⟨[(1,At0 L),(3,.slice (some ⟨bq,oq,none⟩) x.ev.length c),(4,i64 x.ev.length),(5,i64 (locs:Nat)),(6,.slice (some ⟨g,0,none⟩) 6 6)],[]⟩,fun g Z=>Z.heap[g]?=some (.cells (zlu x).toArray 27 (0,0))/\ExH Z L x (some ⟨bq,oq,none⟩) c/\Bw w Z,?_,?_⟩
 ·have hba:∀ (A:World) (o:Obj),Bw A (A.alloc o):=fun A o=>(zba _ _);refine⟨relC x.po,zad _,zaw fX (i:=0) (by decide) rfl,hlt fX,?_⟩;refine⟨relC x.rf,zad _,zaw fX (i:=1) (by decide) rfl,hlt fX,?_⟩;refine⟨relC x.co,zad _,zaw fX (i:=2) (by decide) rfl,hlt fX,?_⟩;refine⟨relC x.dt,zad _,zaw fX (i:=3) (by decide) rfl,hlt fX,?_⟩;refine⟨relC x.ct,zad _,zaw fX (i:=4) (by decide) rfl,hlt fX,?_⟩;refine⟨relC x.rm,zad _,zaw fX (i:=5) (by decide) rfl,hlt fX,?_⟩;refine⟨⟨by decide,by decide,rfl⟩,zlu x,by kernel_rfl,?_⟩;exact⟨X.heap.size,⟨.cons rfl (.cons rfl (.cons rfl (.cons rfl (.cons rfl (.nil))))),rfl⟩,hnew X _,hold _ fX,hbX.alloc hbX.size _⟩
 clear fX hbX;rintro g X ⟨fg,fX,hbX⟩;have hrels:za9 x=(zc6 x).all (okX x):=rfl;refine⟨Unit,fun _=>⟨[(1,At0 L),(3,.slice (some ⟨bq,oq,none⟩) x.ev.length c),(4,i64 x.ev.length),(5,i64 (locs:Nat))],[]⟩,fun _ Z=>za9 x=true/\ExH Z L x (some ⟨bq,oq,none⟩) c/\Bw w Z,?_,?_⟩
 ·refine⟨Nat,fun k=>⟨[(1,At0 L),(3,.slice (some ⟨bq,oq,none⟩) x.ev.length c),(4,i64 x.ev.length),(5,i64 (locs:Nat)),(6,.slice (some ⟨g,0,none⟩) 6 6),(7,i64 (k:Nat))],[]⟩,fun k Z=>k<=6/\((zc6 x).take k).all (okX x)=true/\Z.heap[g]?=some (.cells (zlu x).toArray 27 (0,0))/\ExH Z L x (some ⟨bq,oq,none⟩) c/\Bw w Z,fun k=>6-k,0,⟨.cons rfl (.cons rfl (.cons rfl (.cons rfl (.cons rfl (.cons rfl (.nil)))))),rfl⟩,⟨Nat.zero_le _,rfl,fg,fX,hbX⟩,?_⟩;clear fg fX hbX;rintro k X ⟨hk,hall,fg,fX,hbX⟩;dsimp only;refine biE (fun hc=>?_) fun hc=>?_
  ·have hc:(k:Int)<6:=dT hc;have hk6:k<(zc6 x).length:=(by omega:k<6);obtain⟨r,hr⟩:∃ r,(zc6 x)[k]=r:=⟨_,rfl⟩;have hrm:r∈zc6 x:=by rw [<- hr];exact gM hk6
   have hrw:WrdR r.to:=by
    have:=hv.rel (i:=k) (by omega);rw [gDe,gE hk6,Option.getD_some,hr] at this;exact this
   have htk:(zc6 x).take (k+1)=(zc6 x).take k++[r]:=by rw [tsg hk6,hr]
   obtain⟨bp,op,hqp,hbp,hatr⟩:=(zp3 fg).at hk6;obtain⟨rfl,rfl⟩:g=bp/\op=0:=by simpa [eq_comm] using hqp
   have hck:=hatr k hk6;rw [hr] at hck;have bad:∀ {Z:World},Bw w Z->okX x r=false->(Ending.returned (.bool false)=Ending.returned (.bool (zdU x))/\Bw w Z):=fun {Z} hb h=>⟨rb (by
    have:za9 x=false:=by
     rw [hrels,List.all_eq_false];exact⟨r,hrm,by rw [h];decide⟩
    rw [hright,this];rfl),hb⟩
   refine⟨k,rfl,(by omega:k<6),?_⟩;refine⟨relC r,zad _,hck,hbp,?_⟩;refine cmo (zcj hrw) ?_;rintro e U ⟨rfl,hbU⟩;have bU:=zst hbX hbU;refine biE (fun h2=>?_) fun h2=>?_
   ·have h2:okR r=false:=notB h2;refine brT ?_;exact bad bU (by unfold okX;rw [h2,Bool.and_false])
   have h2:okR r=true:=notF h2;refine⟨k,rfl,(by omega:k<6),?_⟩;refine⟨i64 r.n,by have:=zac (zae hbU hck) (i:=0) (v:=i64 r.n) rfl;exact this,?_⟩;refine biE (fun h3=>?_) fun h3=>?_
   ·have h3:¬ r.n=(x.ev.length:Int):=dF (notB h3);exact bad bU (by unfold okX;rw [decide_eq_false h3];rfl)
   have h3:r.n=(x.ev.length:Int):=dT (notF h3);refine nxI (by omega) ?_;refine⟨k+1,⟨.cons rfl (.cons rfl (.cons rfl (.cons rfl (.cons rfl (.cons rfl (.nil)))))),rfl⟩,⟨by omega,?_,zaa hbU fg,zaa hbU fX,bU⟩,zdc (by omega)⟩;rw [htk,List.all_append,hall];show (true&&(okX x r&&true))=true;unfold okX;rw [decide_eq_true h3,h2];rfl
  ·have hc:¬ (k:Int)<6:=dF hc;obtain rfl:k=6:=by omega
   exact⟨(),⟨.cons rfl (.cons rfl (.cons rfl (.cons rfl (.nil)))),rfl⟩,hall,fX,hbX⟩
 clear fg fX hbX;rintro _ X ⟨hrr,fX,hbX⟩;rw [hrr,Bool.true_and] at hright;have hall:∀ r∈zc6 x,r.n=x.ev.length/\okR r=true:=fun r hr=>by
  rw [hrels,List.all_eq_true] at hrr;have:=hrr r hr;unfold okX at this;rw [bAT,dE] at this;exact this
 have nrf:=(hall x.rf (by simp)).1;have nco:=(hall x.co (by simp)).1;have nrm:=(hall x.rm (by simp)).1;clear hall hrr hrels;refine⟨Unit,fun _=>⟨[(1,At0 L),(3,.slice (some ⟨bq,oq,none⟩) x.ev.length c),(4,i64 x.ev.length),(5,i64 (locs:Nat))],[]⟩,fun _ Z=>zeo x.ev.length (zgu x)=true/\ExH Z L x (some ⟨bq,oq,none⟩) c/\Bw w Z,?_,?_⟩
 ·refine⟨Nat,fun a=>⟨[(1,At0 L),(3,.slice (some ⟨bq,oq,none⟩) x.ev.length c),(4,i64 x.ev.length),(5,i64 (locs:Nat)),(8,i64 (a:Nat))],[]⟩,fun a Z=>a<=x.ev.length/\(∀ i,i<a->((List.range x.ev.length).all fun j=>zgu x i j)=true)/\ExH Z L x (some ⟨bq,oq,none⟩) c/\Bw w Z,fun a=>x.ev.length-a,0,⟨.cons rfl (.cons rfl (.cons rfl (.cons rfl (.cons rfl (.nil))))),rfl⟩,⟨Nat.zero_le _,fun i hi=>by omega,fX,hbX⟩,?_⟩;clear fX hbX;rintro a X ⟨ha,hallA,fX,hbX⟩;dsimp only;refine biE (fun hc=>?_) fun hc=>?_
  ·have hc:(a:Int)<(x.ev.length:Int):=dT hc;have han:a<x.ev.length:=by omega
   refine⟨Unit,fun _=>⟨[(1,At0 L),(3,.slice (some ⟨bq,oq,none⟩) x.ev.length c),(4,i64 x.ev.length),(5,i64 (locs:Nat)),(8,i64 (a:Nat)),(9,i64 (0:Nat))],[]⟩,fun _ Z=>ExH Z L x (some ⟨bq,oq,none⟩) c/\Bw w Z,⟨(),⟨.cons rfl (.cons rfl (.cons rfl (.cons rfl (.cons rfl (.cons rfl (.nil)))))),rfl⟩,fX,hbX⟩,?_⟩;clear fX hbX;rintro _ X ⟨fX,hbX⟩;refine⟨Nat,fun d=>⟨[(1,At0 L),(3,.slice (some ⟨bq,oq,none⟩) x.ev.length c),(4,i64 x.ev.length),(5,i64 (locs:Nat)),(8,i64 (a:Nat)),(9,i64 (d:Nat))],[]⟩,fun d Z=>d<=x.ev.length/\(∀ i,i<d->zgu x a i=true)/\ExH Z L x (some ⟨bq,oq,none⟩) c/\Bw w Z,fun d=>x.ev.length-d,0,⟨.cons rfl (.cons rfl (.cons rfl (.cons rfl (.cons rfl (.cons rfl (.nil)))))),rfl⟩,⟨Nat.zero_le _,fun i hi=>by omega,fX,hbX⟩,?_⟩;clear fX hbX;rintro d X ⟨hd,hallD,fX,hbX⟩;dsimp only;refine biE (fun hc=>?_) fun hc=>?_
   ·have hc:(d:Int)<(x.ev.length:Int):=dT hc;have hdn:d<x.ev.length:=(by omega);have badP:∀ {Z:World},Bw w Z->zgu x a d=false->(Ending.returned (.bool false)=Ending.returned (.bool (zdU x))/\Bw w Z):=fun {Z} hb h=>⟨rb (by
     have:zeo x.ev.length (zgu x)=false:=zdr han (zdr hdn h);rw [hright,this];rfl),hb⟩
    have badpr1:∀ {Z:World},Bw w Z->pr1 x a d=false->(Ending.returned (.bool false)=Ending.returned (.bool (zdU x))/\Bw w Z):=fun {Z} hb h=>badP hb (by rw [zgt,h];rfl);refine⟨Unit,fun _=>⟨[(1,At0 L),(3,.slice (some ⟨bq,oq,none⟩) x.ev.length c),(4,i64 x.ev.length),(5,i64 (locs:Nat)),(8,i64 (a:Nat)),(9,i64 (d:Nat)),(10,.bool (poQ x a d))],[]⟩,fun _ Z=>ExH Z L x (some ⟨bq,oq,none⟩) c/\Bw w Z,?_,?_⟩
    ·have dX:Bw X X.drew:=(Below.refl _ _).drew;refine DrawE.ord [] [0,1,2,3,4,5,6,7,8,9,10,11,12,13,14,15,16,17,18,19,20,21,22,23,24] (by kernel_rfl) ?_;have fX:=zaa dX fX;replace hbX:=zst hbX dX;clear dX;refine⟨a,rfl,by omega,?_⟩;refine⟨_,zi8 (zae hbX (hat a (by omega))),?_⟩;refine biE (fun h1=>?_) fun h1=>?_
     ·refine⟨a,rfl,by omega,?_⟩;refine⟨_,zi8 (zae hbX (hat a (by omega))),?_⟩;refine⟨d,rfl,by omega,?_⟩;refine⟨_,zi8 (zae hbX (hat d (by omega))),?_⟩;refine biE (fun h2=>?_) fun h2=>?_
      ·have e5:decide ((a:Int)<(d:Int))=poQ x a d:=(by unfold poQ;simp [h1,h2]);exact⟨(),⟨.cons rfl (.cons rfl (.cons rfl (.cons rfl (.cons rfl (.cons rfl (.cons (by rw [<- e5];rfl) .nil)))))),rfl⟩,fX,hbX⟩
      ·have e5:false=poQ x a d:=(by unfold poQ;simp [h1,h2]);exact⟨(),⟨.cons rfl (.cons rfl (.cons rfl (.cons rfl (.cons rfl (.cons rfl (.cons (by rw [<- e5];rfl) .nil)))))),rfl⟩,fX,hbX⟩
     ·refine brF ?_;have e5:false=poQ x a d:=(by unfold poQ;simp [h1]);exact⟨(),⟨.cons rfl (.cons rfl (.cons rfl (.cons rfl (.cons rfl (.cons rfl (.cons (by rw [<- e5];rfl) .nil)))))),rfl⟩,fX,hbX⟩
    clear fX hbX;rintro _ X ⟨fX,hbX⟩;refine⟨Unit,fun _=>⟨[(1,At0 L),(3,.slice (some ⟨bq,oq,none⟩) x.ev.length c),(4,i64 x.ev.length),(5,i64 (locs:Nat)),(8,i64 (a:Nat)),(9,i64 (d:Nat)),(10,.bool (poQ x a d)),(11,.bool (zeq x a d))],[]⟩,fun _ Z=>ExH Z L x (some ⟨bq,oq,none⟩) c/\Bw w Z,?_,?_⟩
    ·have dX:Bw X X.drew:=(Below.refl _ _).drew;refine DrawE.ord [] [0,1,2,3,4,5,6,7,8,9,10,11] (by kernel_rfl) ?_;have fX:=zaa dX fX;replace hbX:=zst hbX dX;clear dX;refine⟨a,rfl,by omega,?_⟩;refine⟨_,zo6 (zae hbX (hat a (by omega))),?_⟩;refine⟨d,rfl,by omega,?_⟩;refine⟨_,zo6 (zae hbX (hat d (by omega))),?_⟩;have e5:_=zeq x a d:=(za4 (x:=(evA x a).l) (y:=(evA x d).l)).trans (by unfold zeq;simp []);exact⟨(),⟨.cons rfl (.cons rfl (.cons rfl (.cons rfl (.cons rfl (.cons rfl (.cons rfl (.cons (by rw [<- e5];rfl) .nil))))))),rfl⟩,fX,hbX⟩
    clear fX hbX;rintro _ X ⟨fX,hbX⟩;refine⟨Unit,fun _=>⟨[(1,At0 L),(3,.slice (some ⟨bq,oq,none⟩) x.ev.length c),(4,i64 x.ev.length),(5,i64 (locs:Nat)),(8,i64 (a:Nat)),(9,i64 (d:Nat)),(10,.bool (poQ x a d)),(11,.bool (zeq x a d))],[]⟩,fun _ Z=>pr1 x a d=true/\ExH Z L x (some ⟨bq,oq,none⟩) c/\Bw w Z,?_,?_⟩
    ·refine⟨_,zad _,r_po fX,hlt fX,?_⟩;refine cmo (zbu hv.po (by omega) (by omega)) ?_;rintro e U ⟨rfl,hbU⟩;have fX:=zaa hbU fX;replace hbX:=zst hbX hbU;refine⟨_,fun w=>zm6 _ _ (hasQ (x.po) a d) (poQ x a d) w,?_⟩;refine biE (fun h1=>?_) fun h1=>?_
     ·have h1:=notB h1;exact badpr1 hbX (by unfold pr1;simp [zaH,isW,isR,h1])
     ·have h1:=notF h1;exact⟨(),⟨.cons rfl (.cons rfl (.cons rfl (.cons rfl (.cons rfl (.cons rfl (.cons rfl (.cons rfl (.nil)))))))),rfl⟩,by unfold pr1;simp [zaH,isW,isR,h1],fX,hbX⟩
    clear fX hbX;rintro _ X ⟨p1,fX,hbX⟩;have badpr2:∀ {Z:World},Bw w Z->pr2 x a d=false->(Ending.returned (.bool false)=Ending.returned (.bool (zdU x))/\Bw w Z):=fun {Z} hb h=>badP hb (by rw [zgt,h,p1];rfl);refine⟨Unit,fun _=>⟨[(1,At0 L),(3,.slice (some ⟨bq,oq,none⟩) x.ev.length c),(4,i64 x.ev.length),(5,i64 (locs:Nat)),(8,i64 (a:Nat)),(9,i64 (d:Nat)),(10,.bool (poQ x a d)),(11,.bool (zeq x a d))],[]⟩,fun _ Z=>pr2 x a d=true/\ExH Z L x (some ⟨bq,oq,none⟩) c/\Bw w Z,?_,?_⟩
    ·have dX:Bw X X.drew:=(Below.refl _ _).drew;refine DrawE.ord [] [0,1,2,3,4,5,6,7,8,9,10,11,12,13,14,15,16,17,18,19,20,21,22,23,24,25,26,27,28,29,30,31,32,33,34,35,36,37] (by kernel_rfl) ?_;have fX:=zaa dX fX;replace hbX:=zst hbX dX;clear dX;refine⟨_,zad _,r_rf fX,hlt fX,?_⟩;refine cmo (zbu hv.rf (by omega) (by omega)) ?_;rintro e U ⟨rfl,hbU⟩;refine⟨hbU,?_⟩;have fX:=zaa hbU fX;replace hbX:=zst hbX hbU;refine biE (fun h1=>?_) fun h1=>?_
     ·refine⟨a,rfl,by omega,?_⟩;refine⟨_,zc7 (zae hbX (hat a (by omega))),?_⟩;refine biE (fun h2=>?_) fun h2=>?_
      ·have h2:=zaM.symm.trans h2;refine⟨d,rfl,by omega,?_⟩;refine⟨_,zc7 (zae hbX (hat d (by omega))),?_⟩;refine biE (fun h3=>?_) fun h3=>?_
       ·have h3:=zbp.symm.trans h3;refine biE (fun h4=>?_) fun h4=>?_
        ·refine⟨a,rfl,by omega,?_⟩;refine⟨_,zo5 (zae hbX (hat a (by omega))),?_⟩;refine⟨d,rfl,by omega,?_⟩;refine⟨_,zo5 (zae hbX (hat d (by omega))),?_⟩;refine biE (fun h5=>?_) fun h5=>?_
         ·have h5:=za4.symm.trans (notB h5);exact badpr2 hbX (by unfold pr2;simp [zaH,isW,isR,h1,h2,h3,h4,h5])
         ·have h5:=za4.symm.trans (notF h5);exact⟨(),⟨.cons rfl (.cons rfl (.cons rfl (.cons rfl (.cons rfl (.cons rfl (.cons rfl (.cons rfl (.nil)))))))),rfl⟩,by unfold pr2;simp [zaH,isW,isR,h1,h2,h3,h4,h5],fX,hbX⟩
        ·refine brT ?_;exact badpr2 hbX (by unfold pr2;simp [zaH,isW,isR,h1,h2,h3,h4])
       ·have h3:=zbp.symm.trans h3;refine brF ?_;refine brT ?_;exact badpr2 hbX (by unfold pr2;simp [zaH,isW,isR,h1,h2,h3])
      ·have h2:=zaM.symm.trans h2;refine brF ?_;refine brF ?_;refine brT ?_;exact badpr2 hbX (by unfold pr2;simp [zaH,isW,isR,h1,h2])
     ·refine brF ?_;exact⟨(),⟨.cons rfl (.cons rfl (.cons rfl (.cons rfl (.cons rfl (.cons rfl (.cons rfl (.cons rfl (.nil)))))))),rfl⟩,by unfold pr2;simp [zaH,isW,isR,h1],fX,hbX⟩
    clear fX hbX;rintro _ X ⟨p2,fX,hbX⟩;have badpr3:∀ {Z:World},Bw w Z->pr3 x a d=false->(Ending.returned (.bool false)=Ending.returned (.bool (zdU x))/\Bw w Z):=fun {Z} hb h=>badP hb (by rw [zgt,h,p1,p2];rfl);refine⟨Unit,fun _=>⟨[(1,At0 L),(3,.slice (some ⟨bq,oq,none⟩) x.ev.length c),(4,i64 x.ev.length),(5,i64 (locs:Nat)),(8,i64 (a:Nat)),(9,i64 (d:Nat)),(10,.bool (poQ x a d)),(11,.bool (zeq x a d))],[]⟩,fun _ Z=>pr3 x a d=true/\ExH Z L x (some ⟨bq,oq,none⟩) c/\Bw w Z,?_,?_⟩
    ·refine⟨_,zad _,r_co fX,hlt fX,?_⟩;refine cmo (zbu hv.co (by omega) (by omega)) ?_;rintro e U ⟨rfl,hbU⟩;have fX:=zaa hbU fX;replace hbX:=zst hbX hbU;refine biE (fun h1=>?_) fun h1=>?_
     ·refine⟨a,rfl,by omega,?_⟩;refine⟨_,zc7 (zae hbX (hat a (by omega))),?_⟩;refine biE (fun h2=>?_) fun h2=>?_
      ·have h2:=zaM.symm.trans h2;refine⟨d,rfl,by omega,?_⟩;refine⟨_,zc7 (zae hbX (hat d (by omega))),?_⟩;refine biE (fun h3=>?_) fun h3=>?_
       ·have h3:=zaM.symm.trans h3;refine biE (fun h4=>?_) fun h4=>?_
        ·have h4:=notB h4;exact badpr3 hbX (by unfold pr3;simp [zaH,isW,isR,h1,h2,h3,h4])
        ·have h4:=notF h4;exact⟨(),⟨.cons rfl (.cons rfl (.cons rfl (.cons rfl (.cons rfl (.cons rfl (.cons rfl (.cons rfl (.nil)))))))),rfl⟩,by unfold pr3;simp [zaH,isW,isR,h1,h2,h3,h4],fX,hbX⟩
       ·have h3:=zaM.symm.trans h3;refine brT ?_;exact badpr3 hbX (by unfold pr3;simp [zaH,isW,isR,h1,h2,h3])
      ·have h2:=zaM.symm.trans h2;refine brF ?_;refine brT ?_;exact badpr3 hbX (by unfold pr3;simp [zaH,isW,isR,h1,h2])
     ·refine brF ?_;exact⟨(),⟨.cons rfl (.cons rfl (.cons rfl (.cons rfl (.cons rfl (.cons rfl (.cons rfl (.cons rfl (.nil)))))))),rfl⟩,by unfold pr3;simp [zaH,isW,isR,h1],fX,hbX⟩
    clear fX hbX;rintro _ X ⟨p3,fX,hbX⟩;have badpr4:∀ {Z:World},Bw w Z->pr4 x a d=false->(Ending.returned (.bool false)=Ending.returned (.bool (zdU x))/\Bw w Z):=fun {Z} hb h=>badP hb (by rw [zgt,h,p1,p2,p3];rfl);have good:pr4 x a d=true->∀ i,i<d+1->zgu x a i=true:=fun p4=>zby hallD (by rw [zgt,p1,p2,p3,p4];rfl);refine⟨_,zad _,r_dt fX,hlt fX,?_⟩;refine cmo (zbu hv.dt (by omega) (by omega)) ?_;rintro e U ⟨rfl,hbU⟩;have fX:=zaa hbU fX;replace hbX:=zst hbX hbU;refine biE (fun h1=>?_) fun h1=>?_
    ·refine biE (fun h2=>?_) fun h2=>?_
     ·refine⟨a,rfl,by omega,?_⟩;refine⟨_,zc7 (zae hbX (hat a (by omega))),?_⟩;refine biE (fun h3=>?_) fun h3=>?_
      ·have h3:=zbp.symm.trans h3;refine⟨d,rfl,by omega,?_⟩;refine⟨_,zc7 (zae hbX (hat d (by omega))),?_⟩;refine biE (fun h4=>?_) fun h4=>?_
       ·have h4:=zaM.symm.trans (notB h4);refine brT ?_;refine brT ?_;exact badpr4 hbX (by unfold pr4;simp [zaH,isW,isR,h1,h2,h3,h4])
       ·have h4:=zaM.symm.trans (notF h4);refine⟨_,zad _,r_ct fX,hlt fX,?_⟩;refine cmo (zbu hv.ct (by omega) (by omega)) ?_;rintro e U ⟨rfl,hbU⟩;have fX:=zaa hbU fX;replace hbX:=zst hbX hbU;refine biE (fun h5=>?_) fun h5=>?_
        ·refine biE (fun h6=>?_) fun h6=>?_
         ·refine⟨a,rfl,by omega,?_⟩;refine⟨_,zc7 (zae hbX (hat a (by omega))),?_⟩;refine biE (fun h7=>?_) fun h7=>?_
          ·have h7:=zbp.symm.trans (notB h7)
           cases h3.symm.trans h7
          ·have h7:=zbp.symm.trans (notF h7);refine⟨_,zad _,r_rm fX,hlt fX,?_⟩;refine cmo (zbu hv.rm (by omega) (by omega)) ?_;rintro e U ⟨rfl,hbU⟩;have fX:=zaa hbU fX;replace hbX:=zst hbX hbU;refine biE (fun h8=>?_) fun h8=>?_
           ·refine biE (fun h9=>?_) fun h9=>?_
            ·refine⟨a,rfl,by omega,?_⟩;refine⟨_,zc7 (zae hbX (hat a (by omega))),?_⟩;refine biE (fun h10=>?_) fun h10=>?_
             ·have h10:=zbp.symm.trans h10;refine⟨d,rfl,by omega,?_⟩;refine⟨_,zc7 (zae hbX (hat d (by omega))),?_⟩;refine biE (fun h11=>?_) fun h11=>?_
              ·have h11:=zaM.symm.trans h11;refine biE (fun h12=>?_) fun h12=>?_
               ·have h12:=notB h12;exact badpr4 hbX (by unfold pr4;simp [zaH,isW,isR,h1,h2,h3,h4,h5,h6,h7,h8,h9,h10,h11,h12])
               ·have h12:=notF h12;refine nxI (by omega) ?_;exact⟨d+1,⟨.cons rfl (.cons rfl (.cons rfl (.cons rfl (.cons rfl (.cons rfl (.nil)))))),rfl⟩,⟨hdn,good (by unfold pr4;simp [zaH,isW,isR,h1,h2,h3,h4,h5,h6,h7,h8,h9,h10,h11,h12]),fX,hbX⟩,zdc (by omega)⟩
              ·have h11:=zaM.symm.trans h11
               cases h4.symm.trans h11
             ·have h10:=zbp.symm.trans h10
              cases h3.symm.trans h10
            ·cases h2.symm.trans h9
           ·refine brF ?_;refine nxI (by omega) ?_;exact⟨d+1,⟨.cons rfl (.cons rfl (.cons rfl (.cons rfl (.cons rfl (.cons rfl (.nil)))))),rfl⟩,⟨hdn,good (by unfold pr4;simp [zaH,isW,isR,h1,h2,h3,h4,h5,h6,h7,h8]),fX,hbX⟩,zdc (by omega)⟩
         ·cases h2.symm.trans h6
        ·refine brF ?_;refine⟨_,zad _,r_rm fX,hlt fX,?_⟩;refine cmo (zbu hv.rm (by omega) (by omega)) ?_;rintro e U ⟨rfl,hbU⟩;have fX:=zaa hbU fX;replace hbX:=zst hbX hbU;refine biE (fun h13=>?_) fun h13=>?_
         ·refine biE (fun h14=>?_) fun h14=>?_
          ·refine⟨a,rfl,by omega,?_⟩;refine⟨_,zc7 (zae hbX (hat a (by omega))),?_⟩;refine biE (fun h15=>?_) fun h15=>?_
           ·have h15:=zbp.symm.trans h15;refine⟨d,rfl,by omega,?_⟩;refine⟨_,zc7 (zae hbX (hat d (by omega))),?_⟩;refine biE (fun h16=>?_) fun h16=>?_
            ·have h16:=zaM.symm.trans h16;refine biE (fun h17=>?_) fun h17=>?_
             ·have h17:=notB h17;exact badpr4 hbX (by unfold pr4;simp [zaH,isW,isR,h1,h2,h3,h4,h5,h13,h14,h15,h16,h17])
             ·have h17:=notF h17;refine nxI (by omega) ?_;exact⟨d+1,⟨.cons rfl (.cons rfl (.cons rfl (.cons rfl (.cons rfl (.cons rfl (.nil)))))),rfl⟩,⟨hdn,good (by unfold pr4;simp [zaH,isW,isR,h1,h2,h3,h4,h5,h13,h14,h15,h16,h17]),fX,hbX⟩,zdc (by omega)⟩
            ·have h16:=zaM.symm.trans h16
             cases h4.symm.trans h16
           ·have h15:=zbp.symm.trans h15
            cases h3.symm.trans h15
          ·cases h2.symm.trans h14
         ·refine brF ?_;refine nxI (by omega) ?_;exact⟨d+1,⟨.cons rfl (.cons rfl (.cons rfl (.cons rfl (.cons rfl (.cons rfl (.nil)))))),rfl⟩,⟨hdn,good (by unfold pr4;simp [zaH,isW,isR,h1,h2,h3,h4,h5,h13]),fX,hbX⟩,zdc (by omega)⟩
      ·have h3:=zbp.symm.trans h3;refine brT ?_;refine brT ?_;refine brT ?_;exact badpr4 hbX (by unfold pr4;simp [zaH,isW,isR,h1,h2,h3])
     ·refine brF ?_;refine brT ?_;refine brT ?_;refine brT ?_;exact badpr4 hbX (by unfold pr4;simp [zaH,isW,isR,h1,h2])
    ·refine brF ?_;refine⟨_,zad _,r_ct fX,hlt fX,?_⟩;refine cmo (zbu hv.ct (by omega) (by omega)) ?_;rintro e U ⟨rfl,hbU⟩;have fX:=zaa hbU fX;replace hbX:=zst hbX hbU;refine biE (fun h18=>?_) fun h18=>?_
     ·refine biE (fun h19=>?_) fun h19=>?_
      ·refine⟨a,rfl,by omega,?_⟩;refine⟨_,zc7 (zae hbX (hat a (by omega))),?_⟩;refine biE (fun h20=>?_) fun h20=>?_
       ·have h20:=zbp.symm.trans (notB h20);refine brT ?_;exact badpr4 hbX (by unfold pr4;simp [zaH,isW,isR,h1,h18,h19,h20])
       ·have h20:=zbp.symm.trans (notF h20);refine⟨_,zad _,r_rm fX,hlt fX,?_⟩;refine cmo (zbu hv.rm (by omega) (by omega)) ?_;rintro e U ⟨rfl,hbU⟩;have fX:=zaa hbU fX;replace hbX:=zst hbX hbU;refine biE (fun h21=>?_) fun h21=>?_
        ·refine biE (fun h22=>?_) fun h22=>?_
         ·refine⟨a,rfl,by omega,?_⟩;refine⟨_,zc7 (zae hbX (hat a (by omega))),?_⟩;refine biE (fun h23=>?_) fun h23=>?_
          ·have h23:=zbp.symm.trans h23;refine⟨d,rfl,by omega,?_⟩;refine⟨_,zc7 (zae hbX (hat d (by omega))),?_⟩;refine biE (fun h24=>?_) fun h24=>?_
           ·have h24:=zaM.symm.trans h24;refine biE (fun h25=>?_) fun h25=>?_
            ·have h25:=notB h25;exact badpr4 hbX (by unfold pr4;simp [zaH,isW,isR,h1,h18,h19,h20,h21,h22,h23,h24,h25])
            ·have h25:=notF h25;refine nxI (by omega) ?_;exact⟨d+1,⟨.cons rfl (.cons rfl (.cons rfl (.cons rfl (.cons rfl (.cons rfl (.nil)))))),rfl⟩,⟨hdn,good (by unfold pr4;simp [zaH,isW,isR,h1,h18,h19,h20,h21,h22,h23,h24,h25]),fX,hbX⟩,zdc (by omega)⟩
           ·have h24:=zaM.symm.trans h24;refine brT ?_;exact badpr4 hbX (by unfold pr4;simp [zaH,isW,isR,h1,h18,h19,h20,h21,h22,h23,h24])
          ·have h23:=zbp.symm.trans h23
           cases h20.symm.trans h23
         ·cases h19.symm.trans h22
        ·refine brF ?_;refine nxI (by omega) ?_;exact⟨d+1,⟨.cons rfl (.cons rfl (.cons rfl (.cons rfl (.cons rfl (.cons rfl (.nil)))))),rfl⟩,⟨hdn,good (by unfold pr4;simp [zaH,isW,isR,h1,h18,h19,h20,h21]),fX,hbX⟩,zdc (by omega)⟩
      ·refine brT ?_;refine brT ?_;exact badpr4 hbX (by unfold pr4;simp [zaH,isW,isR,h1,h18,h19])
     ·refine brF ?_;refine⟨_,zad _,r_rm fX,hlt fX,?_⟩;refine cmo (zbu hv.rm (by omega) (by omega)) ?_;rintro e U ⟨rfl,hbU⟩;have fX:=zaa hbU fX;replace hbX:=zst hbX hbU;refine biE (fun h26=>?_) fun h26=>?_
      ·refine biE (fun h27=>?_) fun h27=>?_
       ·refine⟨a,rfl,by omega,?_⟩;refine⟨_,zc7 (zae hbX (hat a (by omega))),?_⟩;refine biE (fun h28=>?_) fun h28=>?_
        ·have h28:=zbp.symm.trans h28;refine⟨d,rfl,by omega,?_⟩;refine⟨_,zc7 (zae hbX (hat d (by omega))),?_⟩;refine biE (fun h29=>?_) fun h29=>?_
         ·have h29:=zaM.symm.trans h29;refine biE (fun h30=>?_) fun h30=>?_
          ·have h30:=notB h30;exact badpr4 hbX (by unfold pr4;simp [zaH,isW,isR,h1,h18,h26,h27,h28,h29,h30])
          ·have h30:=notF h30;refine nxI (by omega) ?_;exact⟨d+1,⟨.cons rfl (.cons rfl (.cons rfl (.cons rfl (.cons rfl (.cons rfl (.nil)))))),rfl⟩,⟨hdn,good (by unfold pr4;simp [zaH,isW,isR,h1,h18,h26,h27,h28,h29,h30]),fX,hbX⟩,zdc (by omega)⟩
         ·have h29:=zaM.symm.trans h29;refine brT ?_;exact badpr4 hbX (by unfold pr4;simp [zaH,isW,isR,h1,h18,h26,h27,h28,h29])
        ·have h28:=zbp.symm.trans h28;refine brF ?_;refine brT ?_;exact badpr4 hbX (by unfold pr4;simp [zaH,isW,isR,h1,h18,h26,h27,h28])
       ·refine brF ?_;refine brF ?_;refine brT ?_;exact badpr4 hbX (by unfold pr4;simp [zaH,isW,isR,h1,h18,h26,h27])
      ·refine brF ?_;refine nxI (by omega) ?_;exact⟨d+1,⟨.cons rfl (.cons rfl (.cons rfl (.cons rfl (.cons rfl (.cons rfl (.nil)))))),rfl⟩,⟨hdn,good (by unfold pr4;simp [zaH,isW,isR,h1,h18,h26]),fX,hbX⟩,zdc (by omega)⟩
   ·have hc:¬ (d:Int)<(x.ev.length:Int):=dF hc;refine nxI (by omega) ?_;exact⟨a+1,⟨.cons rfl (.cons rfl (.cons rfl (.cons rfl (.cons rfl (.nil))))),rfl⟩,⟨han,zby hallA (zdR fun i hi=>hallD i (by omega)),fX,hbX⟩,zdc (by omega)⟩
  ·have hc:¬ (a:Int)<(x.ev.length:Int):=dF hc;exact⟨(),⟨.cons rfl (.cons rfl (.cons rfl (.cons rfl (.nil)))),rfl⟩,zdR fun i hi=>hallA i (by omega),fX,hbX⟩
 clear fX hbX;rintro _ X ⟨hpairs,fX,hbX⟩;rw [hpairs,Bool.true_and] at hright;refine⟨Unit,fun _=>⟨[(1,At0 L),(3,.slice (some ⟨bq,oq,none⟩) x.ev.length c),(4,i64 x.ev.length),(5,i64 (locs:Nat))],[]⟩,fun _ Z=>(List.range x.ev.length).all (zeJ x)=true/\ExH Z L x (some ⟨bq,oq,none⟩) c/\Bw w Z,?_,?_⟩
 ·refine⟨Nat,fun a=>⟨[(1,At0 L),(3,.slice (some ⟨bq,oq,none⟩) x.ev.length c),(4,i64 x.ev.length),(5,i64 (locs:Nat)),(12,i64 (a:Nat))],[]⟩,fun a Z=>a<=x.ev.length/\(∀ i,i<a->zeJ x i=true)/\ExH Z L x (some ⟨bq,oq,none⟩) c/\Bw w Z,fun a=>x.ev.length-a,0,⟨.cons rfl (.cons rfl (.cons rfl (.cons rfl (.cons rfl (.nil))))),rfl⟩,⟨Nat.zero_le _,fun i hi=>by omega,fX,hbX⟩,?_⟩;clear fX hbX;rintro a X ⟨ha,hallA,fX,hbX⟩;dsimp only;refine biE (fun hc=>?_) fun hc=>?_
  ·have hc:(a:Int)<(x.ev.length:Int):=dT hc;have han:a<x.ev.length:=by omega
   have bad:∀ {Z:World},Bw w Z->zeJ x a=false->(Ending.returned (.bool false)=Ending.returned (.bool (zdU x))/\Bw w Z):=fun {Z} hb h=>⟨rb (by
    have:(List.range x.ev.length).all (zeJ x)=false:=zdr han h;rw [hright,this];rfl),hb⟩
   refine⟨a,rfl,by omega,?_⟩;refine⟨_,zc7 (zae hbX (hat a (by omega))),?_⟩;refine biE (fun h1=>?_) fun h1=>?_
   ·have h1:=zbp.symm.trans h1;refine⟨_,zad _,r_rf fX,hlt fX,?_⟩;refine cmo (zgd (n:=x.ev.length) (a:=a) hv.rf nrf (by omega) (by omega)) ?_;rintro e U ⟨rfl,hbU⟩;have fX:=zaa hbU fX;replace hbX:=zst hbX hbU;refine biE (fun h2=>?_) fun h2=>?_
    ·have h2:=(zew (a:=(zb3 x.rf a)) (b:=1)).symm.trans (notB h2);exact bad hbX (by unfold zeJ;simp [isR,h1,h2])
    ·have h2:=(zew (a:=(zb3 x.rf a)) (b:=1)).symm.trans (notF h2);refine⟨_,zad _,r_rm fX,hlt fX,?_⟩;refine cmo (zil (n:=x.ev.length) (a:=a) hv.rm nrm (by omega) (by omega)) ?_;rintro e U ⟨rfl,hbU⟩;have fX:=zaa hbU fX;replace hbX:=zst hbX hbU;refine biE (fun h11=>?_) fun h11=>?_
     ·have h11:=notB ((zfK (a:=(zcl x.rm a))).symm.trans h11);refine brT ?_;exact bad hbX (by unfold zeJ;simp [isR,h1,h2,h11])
     ·have h11:=notF ((zfK (a:=(zcl x.rm a))).symm.trans h11);refine⟨_,zad _,r_rm fX,hlt fX,?_⟩;refine cmo (zgd (n:=x.ev.length) (a:=a) hv.rm nrm (by omega) (by omega)) ?_;rintro e U ⟨rfl,hbU⟩;have fX:=zaa hbU fX;replace hbX:=zst hbX hbU;refine biE (fun h12=>?_) fun h12=>?_
      ·have h12:=notB ((zfK (a:=(zb3 x.rm a))).symm.trans h12);exact bad hbX (by unfold zeJ;simp [isR,h1,h2,h11,h12])
      ·have h12:=notF ((zfK (a:=(zb3 x.rm a))).symm.trans h12);refine nxI (by omega) ?_;exact⟨a+1,⟨.cons rfl (.cons rfl (.cons rfl (.cons rfl (.cons rfl (.nil))))),rfl⟩,⟨han,zby hallA (by unfold zeJ;simp [isR,h1,h2,h11,h12]),fX,hbX⟩,zdc (by omega)⟩
   ·have h1:=zbp.symm.trans h1;refine brF ?_;refine⟨_,zad _,r_rm fX,hlt fX,?_⟩;refine cmo (zil (n:=x.ev.length) (a:=a) hv.rm nrm (by omega) (by omega)) ?_;rintro e U ⟨rfl,hbU⟩;have fX:=zaa hbU fX;replace hbX:=zst hbX hbU;refine biE (fun h11=>?_) fun h11=>?_
    ·have h11:=notB ((zfK (a:=(zcl x.rm a))).symm.trans h11);refine brT ?_;exact bad hbX (by unfold zeJ;simp [isR,h1,h11])
    ·have h11:=notF ((zfK (a:=(zcl x.rm a))).symm.trans h11);refine⟨_,zad _,r_rm fX,hlt fX,?_⟩;refine cmo (zgd (n:=x.ev.length) (a:=a) hv.rm nrm (by omega) (by omega)) ?_;rintro e U ⟨rfl,hbU⟩;have fX:=zaa hbU fX;replace hbX:=zst hbX hbU;refine biE (fun h12=>?_) fun h12=>?_
     ·have h12:=notB ((zfK (a:=(zb3 x.rm a))).symm.trans h12);exact bad hbX (by unfold zeJ;simp [isR,h1,h11,h12])
     ·have h12:=notF ((zfK (a:=(zb3 x.rm a))).symm.trans h12);refine nxI (by omega) ?_;exact⟨a+1,⟨.cons rfl (.cons rfl (.cons rfl (.cons rfl (.cons rfl (.nil))))),rfl⟩,⟨han,zby hallA (by unfold zeJ;simp [isR,h1,h11,h12]),fX,hbX⟩,zdc (by omega)⟩
  ·have hc:¬ (a:Int)<(x.ev.length:Int):=dF hc;exact⟨(),⟨.cons rfl (.cons rfl (.cons rfl (.cons rfl (.nil)))),rfl⟩,zdR fun i hi=>hallA i (by omega),fX,hbX⟩
 clear fX hbX;rintro _ X ⟨hcnts,fX,hbX⟩;rw [hcnts,Bool.true_and] at hright;refine⟨_,zat _ _ _,zab fX,hlt fX,?_⟩;refine cmo (zoE (hv.below hbX) (by omega) nco (by omega)) ?_;rintro e U ⟨rfl,hbU⟩;exact⟨rb hright.symm,(zst hbX hbU)⟩
end
section
variable {w:World}
theorem zj3 {x y:RelD} (hx:WrdR x.to) (hy:WrdR y.to):CB 57 #[i64 0,.agg (relC x).toArray,.agg (relC y).toArray] w (.tuple #[.agg (relC (twoQ false x y).1).toArray,.bool (twoQ false x y).2]):=by
 refine cofM 101 [i64 0,.agg (relC x).toArray,.agg (relC y).toArray] (.c .p (.c .p (.c .p (.c .p .p)))) Tryz.func57 ?_;obtain⟨L,hL⟩:=nm (w.heap.size);refine⟨Unit,fun _=>⟨[(0,i64 0),(4,At0 L),(5,At0 (L+1)),(6,At0 (L+2))],[]⟩,fun _ X=>RelH X L x/\RelH X (L+1) y/\RelH X (L+2) zam/\Bw w X,?_,?_⟩
 ·have s1:=wz w (.cells (relC x).toArray 27);have s2:=wz (w.alloc (.cells (relC x).toArray 27)) (.cells (relC y).toArray 27);have h2:=hnew (w.alloc (.cells (relC x).toArray 27)) (.cells (relC y).toArray 27);have h3:=hnew ((w.alloc (.cells (relC x).toArray 27)).alloc (.cells (relC y).toArray 27)) (.cells (relC zam).toArray 27);rw [s1] at s2 h2;rw [s2] at h3;refine⟨(),⟨.cons rfl (.cons (by rw [hL];rfl) (.cons (by rw [hL,<- s1];rfl) (.cons (by rw [hL,<- s2];rfl) .nil))),rfl⟩,?_,?_,?_,?_⟩
  ·rw [hL];exact hold _ (hold _ (hnew w _))
  ·rw [hL];exact hold _ h2
  ·rw [hL];exact h3
  ·exact (((zba w _)).alloc (by simp) _).alloc (by simp;omega) _
 rintro _ X ⟨fX,fY,f0,hbX⟩;refine⟨Unit,fun _=>⟨[(0,i64 0),(4,At0 L),(5,At0 (L+1)),(6,At0 (L+2))],[]⟩,fun _ X=>(okR x&&(okR y&&decide (x.n=y.n)))=true/\RelH X L x/\RelH X (L+1) y/\RelH X (L+2) zam/\Bw w X,?_,?_⟩
 ·have bad:(okR x&&(okR y&&decide (x.n=y.n)))=false->twoQ false x y=(zam,false):=fun h=>by unfold twoQ;rw [h];rfl
  refine⟨_,zad _,zab fX,hlt fX,?_⟩;refine cmo (zcj hx) ?_;rintro e U ⟨rfl,hbU⟩;have fX:=zaa hbU fX;have fY:=zaa hbU fY;have f0:=zaa hbU f0;replace hbX:=zst hbX hbU;refine biE (fun h1=>?_) fun h1=>?_
  ·have h1:=notB h1;refine brT ?_;refine brT ?_;rw [bad (by simp [h1])];refine⟨relC zam,by kernel_rfl,?_⟩;exact zbF f0 (by omega) hbX fun Z fZ bZ=>⟨relC zam,zad _,zab fZ,rfl,bZ⟩
  ·have h1:=notF h1;refine⟨_,zad _,zab fY,hlt fY,?_⟩;refine cmo (zcj hy) ?_;rintro e U ⟨rfl,hbU⟩;have fX:=zaa hbU fX;have fY:=zaa hbU fY;have f0:=zaa hbU f0;replace hbX:=zst hbX hbU;refine biE (fun h2=>?_) fun h2=>?_
   ·have h2:=notB h2;refine brT ?_;rw [bad (by simp [h1,h2])];refine⟨relC zam,by kernel_rfl,?_⟩;exact zbF f0 (by omega) hbX fun Z fZ bZ=>⟨relC zam,zad _,zab fZ,rfl,bZ⟩
   ·have h2:=notF h2;refine⟨i64 (x).n,zcJ fX,?_⟩;refine⟨i64 (y).n,zcJ fY,?_⟩;refine biE (fun h3=>?_) fun h3=>?_
    ·have h3:=notB h3;rw [bad (by simp [h1,h2,h3])];refine⟨relC zam,by kernel_rfl,?_⟩;exact zbF f0 (by omega) hbX fun Z fZ bZ=>⟨relC zam,zad _,zab fZ,rfl,bZ⟩
    ·have h3:=notF h3;exact⟨(),⟨.cons rfl (.cons rfl (.cons rfl (.cons rfl (.nil)))),rfl⟩,by simp [h1,h2,h3],fX,fY,f0,hbX⟩
 clear fX fY f0 hbX;clear X;rintro _ X ⟨hok,fX,fY,f0,hbX⟩;have hok2:=hok;simp only [bAT,dE] at hok2;obtain⟨ok1,ok2,hnn⟩:=hok2;obtain⟨n,hxn⟩:∃ n:Nat,x.n=n:=⟨x.n.toNat,by have:=(zaQ ok1).1;omega⟩;have h16:n<=48:=by have:=(zaQ ok1).2.1;omega
 have hres:twoQ false x y=(⟨n,(zaP n (bit2 false x y)).to⟩,true):=by unfold twoQ;rw [if_pos hok,hxn];rfl
 rw [hres];refine⟨Nat,fun R=>⟨[(0,i64 0),(4,At0 L),(5,At0 (L+1)),(6,At0 (L+2)),(8,At0 R)],[]⟩,fun R Z=>L+2<R/\RelH Z R ⟨n,fun _=>0⟩/\RelH Z L x/\RelH Z (L+1) y/\RelH Z (L+2) zam/\Bw w Z,?_,?_⟩
 ·refine⟨i64 x.n,zcJ fX,?_⟩;rw [hxn];refine⟨relC ⟨n,fun _=>0⟩,by kernel_rfl,?_⟩;refine zak (X:=X) (v := .agg (relC ⟨n,fun _=>0⟩).toArray) k27 (zad _) (by kernel_rfl) (zas _) fun Z hbZ fZ sZ=>?_;exact⟨X.heap.size,⟨.cons rfl (.cons rfl (.cons rfl (.cons rfl (.cons rfl (.nil))))),rfl⟩,hlt f0,fZ,zaa hbZ fX,zaa hbZ fY,zaa hbZ f0,(zst hbX hbZ)⟩
 clear fX fY f0 hbX;clear X;rintro R X ⟨hR0,f,fX,fY,f0,hbX⟩;refine⟨Unit,fun _=>⟨[(6,At0 (L+2)),(8,At0 R)],[]⟩,fun _ Z=>RelH Z R ⟨n,(zaP n (bit2 false x y)).to⟩/\RelH Z (L+2) zam/\Bw w Z,?_,?_⟩
 ·obtain⟨base,hbase⟩:∃ base:Nat->Nat,base=fun _=>0:=⟨_,rfl⟩;have hbw:WrdR base:=by rw [hbase];exact fun i _=>(by show 0<2^64;decide)
  obtain⟨p,hp⟩:∃ p:Nat->Nat->Bool,p=bit2 false x y:=⟨_,rfl⟩;have hend:zaR base n p n 0=(zaP n (bit2 false x y)).to:=by rw [hp,hbase,zd3]
  rw [<- hbase] at f;refine⟨Nat,fun a=>⟨[(0,i64 0),(4,At0 L),(5,At0 (L+1)),(6,At0 (L+2)),(8,At0 R),(9,i64 (a:Nat))],[]⟩,fun a Z=>a<=n/\RelH Z R ⟨n,zaR base n p a 0⟩/\RelH Z L x/\RelH Z (L+1) y/\RelH Z (L+2) zam/\Bw w Z,fun a=>n-a,0,⟨.cons rfl (.cons rfl (.cons rfl (.cons rfl (.cons rfl (.cons rfl (.nil)))))),rfl⟩,⟨Nat.zero_le _,by rw [zb4];exact f,fX,fY,f0,hbX⟩,?_⟩;clear f fX fY f0 hbX;clear X;rintro a X ⟨ha,f,fX,fY,f0,hbX⟩;dsimp only at f ⊢;refine⟨i64 x.n,zcJ fX,?_⟩;refine biE (fun hc=>?_) fun hc=>?_
  ·have hc:(a:Int)<x.n:=dT hc;have han:a<n:=by omega
   refine⟨Nat,fun d=>⟨[(0,i64 0),(4,At0 L),(5,At0 (L+1)),(6,At0 (L+2)),(8,At0 R),(9,i64 (a:Nat)),(10,i64 (d:Nat))],[]⟩,fun d Z=>d<=n/\RelH Z R ⟨n,zaR base n p a d⟩/\RelH Z L x/\RelH Z (L+1) y/\RelH Z (L+2) zam/\Bw w Z,fun d=>n-d,0,⟨.cons rfl (.cons rfl (.cons rfl (.cons rfl (.cons rfl (.cons rfl (.cons rfl (.nil))))))),rfl⟩,⟨Nat.zero_le _,f,fX,fY,f0,hbX⟩,?_⟩;clear f fX fY f0 hbX;clear X;rintro d X ⟨hd,f,fX,fY,f0,hbX⟩;dsimp only at f ⊢;refine⟨i64 x.n,zcJ fX,?_⟩;refine biE (fun hc=>?_) fun hc=>?_
   ·have hc:(d:Int)<x.n:=dT hc;have hdn:d<n:=(by omega);have dX:Bw X X.drew:=(Below.refl _ _).drew;refine DrawE.ord [] [0,1,2,3,4,6,7,8,9,10,5,11,12,13] (by kernel_rfl) ?_;have f:=zaa dX f;have fX:=zaa dX fX;have fY:=zaa dX fY;have f0:=zaa dX f0;replace hbX:=zst hbX dX;refine⟨a,rfl,by omega,?_⟩;refine⟨s64 ((x).to a),zcc fX (by omega),?_⟩;refine⟨a,rfl,by omega,?_⟩;refine⟨s64 ((y).to a),zcc fY (by omega),?_⟩;refine cmo (zdS (s:=((x).to a)) (b:=d) (by omega)) ?_;rintro e _ ⟨rfl,rfl⟩;refine⟨Below.refl _ _,?_⟩;refine cmo (zdS (s:=((y).to a)) (b:=d) (by omega)) ?_;rintro e _ ⟨rfl,rfl⟩;refine⟨Below.refl _ _,?_⟩;refine brT ?_;refine biE (fun h1=>?_) fun h1=>?_
    ·have h1:=(Eq.refl (hasM x a d)).symm.trans h1;refine brT ?_;refine brT ?_;refine brT ?_;refine brT ?_;have hpt:p a d=true:=(by rw [hp];simp [h1,bit2]);refine⟨_,zad ⟨n,zaR base n p a d⟩,zab f,hlt f,?_⟩;refine cmo (zfS (a:=a) (d:=d) (zbW hbw (by omega) (by omega)) (by omega) (by omega)) ?_;rintro e U ⟨rfl,hbU⟩;rw [putB hpt];refine zcb (zaa hbU f) (by omega) ((zst hbX hbU)) fun Z fZ oZ bZ=>?_;refine nxI (by omega) ?_;exact⟨d+1,⟨.cons rfl (.cons rfl (.cons rfl (.cons rfl (.cons rfl (.cons rfl (.cons rfl (.nil))))))),rfl⟩,⟨hdn,fZ,(oZ L (by omega)).trans (zaa hbU fX),(oZ (L+1) (by omega)).trans (zaa hbU fY),(oZ (L+2) (by omega)).trans (zaa hbU f0),bZ⟩,zdc (by omega)⟩
    ·have h1:=(Eq.refl (hasM x a d)).symm.trans h1;refine biE (fun h2=>?_) fun h2=>?_
     ·have h2:=(Eq.refl (hasM y a d)).symm.trans h2;refine brT ?_;refine brT ?_;refine brT ?_;have hpt:p a d=true:=(by rw [hp];simp [h1,h2,bit2]);refine⟨_,zad ⟨n,zaR base n p a d⟩,zab f,hlt f,?_⟩;refine cmo (zfS (a:=a) (d:=d) (zbW hbw (by omega) (by omega)) (by omega) (by omega)) ?_;rintro e U ⟨rfl,hbU⟩;rw [putB hpt];refine zcb (zaa hbU f) (by omega) ((zst hbX hbU)) fun Z fZ oZ bZ=>?_;refine nxI (by omega) ?_;exact⟨d+1,⟨.cons rfl (.cons rfl (.cons rfl (.cons rfl (.cons rfl (.cons rfl (.cons rfl (.nil))))))),rfl⟩,⟨hdn,fZ,(oZ L (by omega)).trans (zaa hbU fX),(oZ (L+1) (by omega)).trans (zaa hbU fY),(oZ (L+2) (by omega)).trans (zaa hbU f0),bZ⟩,zdc (by omega)⟩
     ·have h2:=(Eq.refl (hasM y a d)).symm.trans h2;refine brF ?_;refine brF ?_;refine brF ?_;refine brF ?_;refine brF ?_;refine brF ?_;refine brF ?_;refine brF ?_;have hpf:p a d=false:=(by rw [hp];simp [h1,h2,bit2]);refine nxI (by omega) ?_;exact⟨d+1,⟨.cons rfl (.cons rfl (.cons rfl (.cons rfl (.cons rfl (.cons rfl (.cons rfl (.nil))))))),rfl⟩,⟨hdn,by rw [<- zaO hpf];exact f,fX,fY,f0,hbX⟩,zdc (by omega)⟩
   ·have hc:¬ (d:Int)<x.n:=dF hc;obtain rfl:d=n:=(by omega);refine nxI (by omega) ?_;exact⟨a+1,⟨.cons rfl (.cons rfl (.cons rfl (.cons rfl (.cons rfl (.cons rfl (.nil)))))),rfl⟩,⟨han,by rw [<- zb5];exact f,fX,fY,f0,hbX⟩,zdc (by omega)⟩
  ·have hc:¬ (a:Int)<x.n:=dF hc;obtain rfl:a=n:=by omega
   rw [hend] at f;exact⟨(),⟨.cons rfl (.cons rfl (.nil)),rfl⟩,f,f0,hbX⟩
 clear f fX fY f0 hbX;clear X;rintro _ X ⟨f,f0,hbX⟩;refine⟨relC ⟨n,(zaP n (bit2 false x y)).to⟩,zad _,zab f,hlt f,?_⟩;exact zbF f0 (by omega) hbX fun Z fZ bZ=>⟨relC ⟨n,(zaP n (bit2 false x y)).to⟩,zad _,zab fZ,rfl,bZ⟩
theorem zru {x y:RelD} (hx:WrdR x.to) (hy:WrdR y.to):CB 57 #[i64 1,.agg (relC x).toArray,.agg (relC y).toArray] w (.tuple #[.agg (relC (twoQ true x y).1).toArray,.bool (twoQ true x y).2]):=by
 refine cofM 101 [i64 1,.agg (relC x).toArray,.agg (relC y).toArray] (.c .p (.c .p (.c .p (.c .p .p)))) Tryz.func57 ?_;obtain⟨L,hL⟩:=nm (w.heap.size);refine⟨Unit,fun _=>⟨[(0,i64 1),(4,At0 L),(5,At0 (L+1)),(6,At0 (L+2))],[]⟩,fun _ X=>RelH X L x/\RelH X (L+1) y/\RelH X (L+2) zam/\Bw w X,?_,?_⟩
 ·have s1:=wz w (.cells (relC x).toArray 27);have s2:=wz (w.alloc (.cells (relC x).toArray 27)) (.cells (relC y).toArray 27);have h2:=hnew (w.alloc (.cells (relC x).toArray 27)) (.cells (relC y).toArray 27);have h3:=hnew ((w.alloc (.cells (relC x).toArray 27)).alloc (.cells (relC y).toArray 27)) (.cells (relC zam).toArray 27);rw [s1] at s2 h2;rw [s2] at h3;refine⟨(),⟨.cons rfl (.cons (by rw [hL];rfl) (.cons (by rw [hL,<- s1];rfl) (.cons (by rw [hL,<- s2];rfl) .nil))),rfl⟩,?_,?_,?_,?_⟩
  ·rw [hL];exact hold _ (hold _ (hnew w _))
  ·rw [hL];exact hold _ h2
  ·rw [hL];exact h3
  ·exact (((zba w _)).alloc (by simp) _).alloc (by simp;omega) _
 rintro _ X ⟨fX,fY,f0,hbX⟩;refine⟨Unit,fun _=>⟨[(0,i64 1),(4,At0 L),(5,At0 (L+1)),(6,At0 (L+2))],[]⟩,fun _ X=>(okR x&&(okR y&&decide (x.n=y.n)))=true/\RelH X L x/\RelH X (L+1) y/\RelH X (L+2) zam/\Bw w X,?_,?_⟩
 ·have bad:(okR x&&(okR y&&decide (x.n=y.n)))=false->twoQ true x y=(zam,false):=fun h=>by unfold twoQ;rw [h];rfl
  refine⟨_,zad _,zab fX,hlt fX,?_⟩;refine cmo (zcj hx) ?_;rintro e U ⟨rfl,hbU⟩;have fX:=zaa hbU fX;have fY:=zaa hbU fY;have f0:=zaa hbU f0;replace hbX:=zst hbX hbU;refine biE (fun h1=>?_) fun h1=>?_
  ·have h1:=notB h1;refine brT ?_;refine brT ?_;rw [bad (by simp [h1])];refine⟨relC zam,by kernel_rfl,?_⟩;exact zbF f0 (by omega) hbX fun Z fZ bZ=>⟨relC zam,zad _,zab fZ,rfl,bZ⟩
  ·have h1:=notF h1;refine⟨_,zad _,zab fY,hlt fY,?_⟩;refine cmo (zcj hy) ?_;rintro e U ⟨rfl,hbU⟩;have fX:=zaa hbU fX;have fY:=zaa hbU fY;have f0:=zaa hbU f0;replace hbX:=zst hbX hbU;refine biE (fun h2=>?_) fun h2=>?_
   ·have h2:=notB h2;refine brT ?_;rw [bad (by simp [h1,h2])];refine⟨relC zam,by kernel_rfl,?_⟩;exact zbF f0 (by omega) hbX fun Z fZ bZ=>⟨relC zam,zad _,zab fZ,rfl,bZ⟩
   ·have h2:=notF h2;refine⟨i64 (x).n,zcJ fX,?_⟩;refine⟨i64 (y).n,zcJ fY,?_⟩;refine biE (fun h3=>?_) fun h3=>?_
    ·have h3:=notB h3;rw [bad (by simp [h1,h2,h3])];refine⟨relC zam,by kernel_rfl,?_⟩;exact zbF f0 (by omega) hbX fun Z fZ bZ=>⟨relC zam,zad _,zab fZ,rfl,bZ⟩
    ·have h3:=notF h3;exact⟨(),⟨.cons rfl (.cons rfl (.cons rfl (.cons rfl (.nil)))),rfl⟩,by simp [h1,h2,h3],fX,fY,f0,hbX⟩
 clear fX fY f0 hbX;clear X;rintro _ X ⟨hok,fX,fY,f0,hbX⟩;have hok2:=hok;simp only [bAT,dE] at hok2;obtain⟨ok1,ok2,hnn⟩:=hok2;obtain⟨n,hxn⟩:∃ n:Nat,x.n=n:=⟨x.n.toNat,by have:=(zaQ ok1).1;omega⟩;have h16:n<=48:=by have:=(zaQ ok1).2.1;omega
 have hres:twoQ true x y=(⟨n,(zaP n (bit2 true x y)).to⟩,true):=by unfold twoQ;rw [if_pos hok,hxn];rfl
 rw [hres];refine⟨Nat,fun R=>⟨[(0,i64 1),(4,At0 L),(5,At0 (L+1)),(6,At0 (L+2)),(8,At0 R)],[]⟩,fun R Z=>L+2<R/\RelH Z R ⟨n,fun _=>0⟩/\RelH Z L x/\RelH Z (L+1) y/\RelH Z (L+2) zam/\Bw w Z,?_,?_⟩
 ·refine⟨i64 x.n,zcJ fX,?_⟩;rw [hxn];refine⟨relC ⟨n,fun _=>0⟩,by kernel_rfl,?_⟩;refine zak (X:=X) (v := .agg (relC ⟨n,fun _=>0⟩).toArray) k27 (zad _) (by kernel_rfl) (zas _) fun Z hbZ fZ sZ=>?_;exact⟨X.heap.size,⟨.cons rfl (.cons rfl (.cons rfl (.cons rfl (.cons rfl (.nil))))),rfl⟩,hlt f0,fZ,zaa hbZ fX,zaa hbZ fY,zaa hbZ f0,(zst hbX hbZ)⟩
 clear fX fY f0 hbX;clear X;rintro R X ⟨hR0,f,fX,fY,f0,hbX⟩;refine⟨Unit,fun _=>⟨[(6,At0 (L+2)),(8,At0 R)],[]⟩,fun _ Z=>RelH Z R ⟨n,(zaP n (bit2 true x y)).to⟩/\RelH Z (L+2) zam/\Bw w Z,?_,?_⟩
 ·obtain⟨base,hbase⟩:∃ base:Nat->Nat,base=fun _=>0:=⟨_,rfl⟩;have hbw:WrdR base:=by rw [hbase];exact fun i _=>(by show 0<2^64;decide)
  obtain⟨p,hp⟩:∃ p:Nat->Nat->Bool,p=bit2 true x y:=⟨_,rfl⟩;have hend:zaR base n p n 0=(zaP n (bit2 true x y)).to:=by rw [hp,hbase,zd3]
  rw [<- hbase] at f;refine⟨Nat,fun a=>⟨[(0,i64 1),(4,At0 L),(5,At0 (L+1)),(6,At0 (L+2)),(8,At0 R),(9,i64 (a:Nat))],[]⟩,fun a Z=>a<=n/\RelH Z R ⟨n,zaR base n p a 0⟩/\RelH Z L x/\RelH Z (L+1) y/\RelH Z (L+2) zam/\Bw w Z,fun a=>n-a,0,⟨.cons rfl (.cons rfl (.cons rfl (.cons rfl (.cons rfl (.cons rfl (.nil)))))),rfl⟩,⟨Nat.zero_le _,by rw [zb4];exact f,fX,fY,f0,hbX⟩,?_⟩;clear f fX fY f0 hbX;clear X;rintro a X ⟨ha,f,fX,fY,f0,hbX⟩;dsimp only at f ⊢;refine⟨i64 x.n,zcJ fX,?_⟩;refine biE (fun hc=>?_) fun hc=>?_
  ·have hc:(a:Int)<x.n:=dT hc;have han:a<n:=by omega
   refine⟨Nat,fun d=>⟨[(0,i64 1),(4,At0 L),(5,At0 (L+1)),(6,At0 (L+2)),(8,At0 R),(9,i64 (a:Nat)),(10,i64 (d:Nat))],[]⟩,fun d Z=>d<=n/\RelH Z R ⟨n,zaR base n p a d⟩/\RelH Z L x/\RelH Z (L+1) y/\RelH Z (L+2) zam/\Bw w Z,fun d=>n-d,0,⟨.cons rfl (.cons rfl (.cons rfl (.cons rfl (.cons rfl (.cons rfl (.cons rfl (.nil))))))),rfl⟩,⟨Nat.zero_le _,f,fX,fY,f0,hbX⟩,?_⟩;clear f fX fY f0 hbX;clear X;rintro d X ⟨hd,f,fX,fY,f0,hbX⟩;dsimp only at f ⊢;refine⟨i64 x.n,zcJ fX,?_⟩;refine biE (fun hc=>?_) fun hc=>?_
   ·have hc:(d:Int)<x.n:=dT hc;have hdn:d<n:=(by omega);have dX:Bw X X.drew:=(Below.refl _ _).drew;refine DrawE.ord [] [0,1,2,3,4,6,7,8,9,10,5,11,12,13] (by kernel_rfl) ?_;have f:=zaa dX f;have fX:=zaa dX fX;have fY:=zaa dX fY;have f0:=zaa dX f0;replace hbX:=zst hbX dX;refine⟨a,rfl,by omega,?_⟩;refine⟨s64 ((x).to a),zcc fX (by omega),?_⟩;refine⟨a,rfl,by omega,?_⟩;refine⟨s64 ((y).to a),zcc fY (by omega),?_⟩;refine cmo (zdS (s:=((x).to a)) (b:=d) (by omega)) ?_;rintro e _ ⟨rfl,rfl⟩;refine⟨Below.refl _ _,?_⟩;refine cmo (zdS (s:=((y).to a)) (b:=d) (by omega)) ?_;rintro e _ ⟨rfl,rfl⟩;refine⟨Below.refl _ _,?_⟩;refine brF ?_;refine brF ?_;refine brT ?_;refine biE (fun h1=>?_) fun h1=>?_
    ·have h1:=(Eq.refl (hasM x a d)).symm.trans h1;refine biE (fun h2=>?_) fun h2=>?_
     ·have h2:=(Eq.refl (hasM y a d)).symm.trans h2;refine brT ?_;refine brT ?_;have hpt:p a d=true:=(by rw [hp];simp [h1,h2,bit2]);refine⟨_,zad ⟨n,zaR base n p a d⟩,zab f,hlt f,?_⟩;refine cmo (zfS (a:=a) (d:=d) (zbW hbw (by omega) (by omega)) (by omega) (by omega)) ?_;rintro e U ⟨rfl,hbU⟩;rw [putB hpt];refine zcb (zaa hbU f) (by omega) ((zst hbX hbU)) fun Z fZ oZ bZ=>?_;refine nxI (by omega) ?_;exact⟨d+1,⟨.cons rfl (.cons rfl (.cons rfl (.cons rfl (.cons rfl (.cons rfl (.cons rfl (.nil))))))),rfl⟩,⟨hdn,fZ,(oZ L (by omega)).trans (zaa hbU fX),(oZ (L+1) (by omega)).trans (zaa hbU fY),(oZ (L+2) (by omega)).trans (zaa hbU f0),bZ⟩,zdc (by omega)⟩
     ·have h2:=(Eq.refl (hasM y a d)).symm.trans h2;refine brF ?_;refine brF ?_;refine brF ?_;refine brF ?_;refine brF ?_;have hpf:p a d=false:=(by rw [hp];simp [h1,h2,bit2]);refine nxI (by omega) ?_;exact⟨d+1,⟨.cons rfl (.cons rfl (.cons rfl (.cons rfl (.cons rfl (.cons rfl (.cons rfl (.nil))))))),rfl⟩,⟨hdn,by rw [<- zaO hpf];exact f,fX,fY,f0,hbX⟩,zdc (by omega)⟩
    ·have h1:=(Eq.refl (hasM x a d)).symm.trans h1;refine brF ?_;refine brF ?_;refine brF ?_;refine brF ?_;refine brF ?_;refine brF ?_;have hpf:p a d=false:=(by rw [hp];simp [h1,bit2]);refine nxI (by omega) ?_;exact⟨d+1,⟨.cons rfl (.cons rfl (.cons rfl (.cons rfl (.cons rfl (.cons rfl (.cons rfl (.nil))))))),rfl⟩,⟨hdn,by rw [<- zaO hpf];exact f,fX,fY,f0,hbX⟩,zdc (by omega)⟩
   ·have hc:¬ (d:Int)<x.n:=dF hc;obtain rfl:d=n:=(by omega);refine nxI (by omega) ?_;exact⟨a+1,⟨.cons rfl (.cons rfl (.cons rfl (.cons rfl (.cons rfl (.cons rfl (.nil)))))),rfl⟩,⟨han,by rw [<- zb5];exact f,fX,fY,f0,hbX⟩,zdc (by omega)⟩
  ·have hc:¬ (a:Int)<x.n:=dF hc;obtain rfl:a=n:=by omega
   rw [hend] at f;exact⟨(),⟨.cons rfl (.cons rfl (.nil)),rfl⟩,f,f0,hbX⟩
 clear f fX fY f0 hbX;clear X;rintro _ X ⟨f,f0,hbX⟩;refine⟨relC ⟨n,(zaP n (bit2 true x y)).to⟩,zad _,zab f,hlt f,?_⟩;exact zbF f0 (by omega) hbX fun Z fZ bZ=>⟨relC ⟨n,(zaP n (bit2 true x y)).to⟩,zad _,zab fZ,rfl,bZ⟩
end
theorem zjm {x y:RelD} (hx:WrdR x.to) (hy:WrdR y.to):(twoQ false x y).1=(za8 x y).1:=zpt hx hy
theorem zp1 {x y:RelD} (hx:WrdR x.to) (hy:WrdR y.to):(twoQ true x y).1=(zbH x y).1:=zpt hx hy
section
variable {w:World}
theorem zhx {p q r s:RelD} (hp:WrdR p.to) (hq:WrdR q.to) (hr:WrdR r.to) (hs:WrdR s.to):CB 58 #[.agg (relC p).toArray,.agg (relC q).toArray,.agg (relC r).toArray,.agg (relC s).toArray] w (.bool (cycQ p q r s)):=by
 refine cofM 36 [.agg (relC p).toArray,.agg (relC q).toArray,.agg (relC r).toArray,.agg (relC s).toArray] (.c .p (.c .p (.c .p (.c .p .p)))) Tryz.func58 ?_;obtain⟨L,hL⟩:=nm (w.heap.size);refine⟨Unit,fun _=>⟨[(4,At0 L),(5,At0 (L+1)),(6,At0 (L+2)),(7,At0 (L+3))],[]⟩,fun _ X=>RelH X L p/\RelH X (L+1) q/\RelH X (L+2) r/\RelH X (L+3) s/\Bw w X,?_,?_⟩
 ·obtain⟨A,hA⟩:=nm (w.alloc (.cells (relC p).toArray 27));obtain⟨B,hB⟩:=nm (A.alloc (.cells (relC q).toArray 27));obtain⟨C,hC⟩:=nm (B.alloc (.cells (relC r).toArray 27));have s1:A.heap.size=w.heap.size+1:=by rw [hA];exact wz _ _
  have s2:B.heap.size=A.heap.size+1:=by rw [hB];exact wz _ _
  have s3:C.heap.size=B.heap.size+1:=by rw [hC];exact wz _ _
  have f1:RelH A L p:=by rw [hA,hL];exact hnew w _
  have f2:RelH B (L+1) q:=by rw [hB,show L+1=A.heap.size by omega];exact hnew A _
  have f3:RelH C (L+2) r:=by rw [hC,show L+2=B.heap.size by omega];exact hnew B _
  have f4:RelH (C.alloc (.cells (relC s).toArray 27)) (L+3) s:=by rw [show L+3=C.heap.size by omega];exact hnew C _
  have g1:RelH B L p:=by rw [hB];exact hold _ f1
  have g2:RelH C L p:=by rw [hC];exact hold _ g1
  have g3:RelH C (L+1) q:=by rw [hC];exact hold _ f2
  have b1:Bw w A:=by rw [hA];exact (zba w _)
  have b2:Bw w B:=by rw [hB];exact b1.alloc b1.size _
  have b3:Bw w C:=by rw [hC];exact b2.alloc b2.size _
  have e1:A.heap.size=L+1:=by omega
  have e2:B.heap.size=L+2:=by omega
  have e3:C.heap.size=L+3:=by omega
  subst hC hB hA;exact⟨(),⟨.cons (by rw [hL];rfl) (.cons (congrArg (fun n=>some (At0 n)) e1) (.cons (congrArg (fun n=>some (At0 n)) e2) (.cons (congrArg (fun n=>some (At0 n)) e3) .nil))),rfl⟩,hold _ g2,hold _ g3,hold _ f3,f4,b3.alloc b3.size _⟩
 rintro _ X ⟨f1,f2,f3,f4,hbX⟩;have wu:=zeL hp hq;have wv:=zeL hr hs;refine⟨Nat,fun U=>⟨[(6,At0 (L+2)),(7,At0 (L+3)),(9,At0 U)],[]⟩,fun U X=>RelH X U (za8 p q).1/\RelH X (L+2) r/\RelH X (L+3) s/\Bw w X,?_,?_⟩
 ·refine⟨relC p,zad _,zab f1,hlt f1,?_⟩;refine⟨relC q,zad _,zab f2,hlt f2,?_⟩;refine cmo (zj3 hp hq) ?_;rintro e Y ⟨rfl,hbY⟩;rw [zjm hp hq];refine zak (X:=Y) (v := .agg (relC (za8 p q).1).toArray) k27 (zad _) (by kernel_rfl) (zas _) fun Z hbZ fZ sZ=>?_;have bY:=zst hbX hbY;exact⟨Y.heap.size,(cvE rfl rfl),fZ,zaa hbZ (zaa hbY f3),zaa hbZ (zaa hbY f4),(zst bY hbZ)⟩
 clear f1 f2 f3 f4 hbX;clear X;rintro U X ⟨f1,f3,f4,hbX⟩;refine⟨Nat,fun V=>⟨[(9,At0 U),(11,At0 V)],[]⟩,fun V X=>RelH X U (za8 p q).1/\RelH X V (za8 r s).1/\Bw w X,?_,?_⟩
 ·refine⟨relC r,zad _,zab f3,hlt f3,?_⟩;refine⟨relC s,zad _,zab f4,hlt f4,?_⟩;refine cmo (zj3 hr hs) ?_;rintro e Y ⟨rfl,hbY⟩;rw [zjm hr hs];refine zak (X:=Y) (v := .agg (relC (za8 r s).1).toArray) k27 (zad _) (by kernel_rfl) (zas _) fun Z hbZ fZ sZ=>?_;have bY:=zst hbX hbY;exact⟨Y.heap.size,(cvE rfl rfl),zaa hbZ (zaa hbY f1),fZ,(zst bY hbZ)⟩
 clear f1 f3 f4 hbX;clear X;rintro V X ⟨f1,f2,hbX⟩;obtain⟨a,ha⟩:=nm ((za8 p q).1);obtain⟨b,hb⟩:=nm ((za8 r s).1);have hcyc:cycQ p q r s = !acyR (za8 a b).1:=by rw [ha,hb];rfl
 rw [hcyc];rw [<- ha] at wu f1;rw [<- hb] at wv f2;refine⟨Nat,fun T=>⟨[(13,At0 T)],[]⟩,fun T X=>RelH X T (za8 a b).1/\Bw w X,?_,?_⟩
 ·refine⟨relC a,zad _,zab f1,hlt f1,?_⟩;refine⟨relC b,zad _,zab f2,hlt f2,?_⟩;refine cmo (zj3 wu wv) ?_;rintro e Y ⟨rfl,hbY⟩;rw [zjm wu wv];refine zak (X:=Y) (v := .agg (relC (za8 a b).1).toArray) k27 (zad _) (by kernel_rfl) (zas _) fun Z hbZ fZ sZ=>?_;have bY:=zst hbX hbY;exact⟨Y.heap.size,(cvE rfl rfl),fZ,(zst bY hbZ)⟩
 rintro T X ⟨f1,hbX⟩;refine⟨relC (za8 a b).1,zad _,zab f1,hlt f1,?_⟩;refine cmo (zj8 (zeL wu wv)) ?_;rintro e Y ⟨rfl,hbY⟩;exact⟨rfl,(zst hbX hbY)⟩
end
section
variable {w:World} {c:Nat} {x:ExD} {q:Option Addr}
theorem zrz {m:UInt8} (hv:ExV w x q):CB 14 #[u8 m,.agg (exC x q c).toArray] w (.bool (zbw m.toNat&&za5 x)):=by
 refine cofM 15 [u8 m,.agg (exC x q c).toArray] (.c .p .p) Tryz.func14 ?_;obtain⟨L,hL⟩:=nm (w.heap.size);refine⟨Unit,fun _=>⟨[(0,u8 m),(3,At0 L)],[]⟩,fun _ X=>ExH X L x q c/\Bw w X,⟨(),⟨.cons rfl (.cons (by rw [hL];rfl) .nil),rfl⟩,by rw [hL];exact hnew w _,(zba w _)⟩,?_⟩;rintro _ X ⟨fX,hbX⟩;refine biE (fun h=>?_) fun h=>?_
 ·have h:(1:Int)<=(m.toNat:Int):=dT h;refine biE (fun h2=>?_) fun h2=>?_
  ·have h2:(m.toNat:Int)<=6:=dT h2;refine⟨exC x q c,zat _ _ _,zab fX,hlt fX,?_⟩;refine cmo (zoc (hv.below hbX)) ?_;rintro e Y ⟨rfl,hbY⟩;refine⟨rb ?_,(zst hbX hbY)⟩;unfold zbw;rw [decide_eq_true (by omega:1<=m.toNat),decide_eq_true (by omega:m.toNat<=6)];rfl
  ·have h2:¬ (m.toNat:Int)<=6:=dF h2;refine⟨rb ?_,hbX⟩;unfold zbw;rw [decide_eq_false (by omega:¬ m.toNat<=6),Bool.and_false];rfl
 ·have h:¬ (1:Int)<=(m.toNat:Int):=dF h;refine brF ?_;refine⟨rb ?_,hbX⟩;unfold zbw;rw [decide_eq_false (by omega:¬ 1<=m.toNat)];rfl
theorem zl2 {m:UInt8} (hv:ExV w x q):CB 17 #[u8 m,.agg (exC x q c).toArray] w (u8 (UInt8.ofNat (zcD m.toNat x))):=by
 refine cofM 88 [u8 m,.agg (exC x q c).toArray] (.c .p (.c .p (.c .p (.c .p (.c .p (.c .p (.c .p .p))))))) Tryz.func17 ?_;obtain⟨L,hL⟩:=nm (w.heap.size);have h16:=hv.n;have wfr:WrdR (frQ x).to:=zce (by omega);have wlo:WrdR (locQ x).to:=zce (by omega);have whe:WrdR (zbH x.po (locQ x)).1.to:=zkZ hv.po;have hba:∀ (A:World) (o:Obj),Bw A (A.alloc o):=fun A o=>(zba _ _);refine⟨Unit,fun _=>⟨[(0,u8 m),(3,At0 L)],[]⟩,fun _ X=>ExH X L x q c/\Bw w X,⟨(),⟨.cons rfl (.cons (by rw [hL];rfl) .nil),rfl⟩,by rw [hL];exact hnew w _,(zba w _)⟩,?_⟩;rintro _ X ⟨fX,hbX⟩;refine⟨Nat,fun F=>⟨[(0,u8 m),(3,At0 L),(5,At0 F)],[]⟩,fun F Z=>RelH Z F (frQ x)/\ExH Z L x q c/\Bw w Z,?_,?_⟩
 ·refine⟨_,zat _ _ _,zab fX,hlt fX,?_⟩;refine cmo (zsU (hv.below hbX)) ?_;rintro e Y ⟨rfl,hbY⟩;have bY:=zst hbX hbY;refine zak (X:=Y) (v := .agg (relC (frQ x)).toArray) k27 (zad _) (by kernel_rfl) (zas _) fun Z hbZ fZ sZ=>?_;exact⟨Y.heap.size,(cvE rfl rfl),fZ,zaa hbZ (zaa hbY fX),(zst bY hbZ)⟩
 clear fX hbX;clear X;rintro F X ⟨fF,fX,hbX⟩;refine⟨Nat,fun H=>⟨[(0,u8 m),(3,At0 L),(5,At0 F),(6,At0 H)],[]⟩,fun H Z=>RelH Z H (zbH x.po (locQ x)).1/\RelH Z F (frQ x)/\ExH Z L x q c/\Bw w Z,?_,?_⟩
 ·have dX:Bw X X.drew:=(Below.refl _ _).drew;have put:∀ {W:World} {b3:Nat},Bw X W->RelH W b3 zam->X.heap.size<=b3->∀ {K:World->Prop},(∀ Y,(RelH Y b3 (zbH x.po (locQ x)).1/\RelH Y F (frQ x)/\ExH Y L x q c/\Bw w Y)->K Y) ->
    SatR ((storeVar 27 ⟨b3,0,none⟩ (.agg (relC (zbH x.po (locQ x)).1).toArray)).run Tryz.prog W) fun _ w'=>K w':=fun {W b3} hW f3 g3 {K} k =>
   zcb f3 (by have:=hbX.size;omega) ((zst hbX hW)) fun Y f o b=>k Y ⟨f,(o F (by have:=hlt fF;omega)).trans (zaa hW fF),(o L (by have:=hlt fX;omega)).trans (zaa hW fX),b⟩
  have kL:∀ {W:World},Bw X W->CB 28 #[.agg (exC x q c).toArray] W (.agg (relC (locQ x)).toArray):=fun {W} hW=>zrB (hv.below ((zst hbX hW)));have kT:∀ {W:World},CB 57 #[i64 1,.agg (relC x.po).toArray,.agg (relC (locQ x)).toArray] W (.tuple #[.agg (relC (zbH x.po (locQ x)).1).toArray,.bool (twoQ true x.po (locQ x)).2]):=fun {W}=>by
   rw [<- zp1 hv.po wlo];exact zru hv.po wlo
  refine DrawE.treeQ [9] (.op 0 (.op 1 (.op 2 (.alt (.op 8 (.op 3 (.op 4 (.op 5 (.op 6 (.op 7 (.op 9 (.op 10 .nil)))))))) (.op 3 (.alt (.op 8 (.op 4 (.op 5 (.op 6 (.op 7 (.op 9 (.op 10 .nil))))))) (.op 4 (.op 5 (.op 6 (.op 7 (.op 8 (.op 9 (.op 10 .nil))))))))))))) (by kernel_rfl) ?_;refine⟨relC x.po,zad _,zaw (hdr fX) (i:=0) (by decide) rfl,hlt (hdr fX),?_⟩;refine⟨_,zat _ _ _,zab (hdr fX),hlt (hdr fX),?_⟩;refine And.intro ?_ ?_
  ·refine⟨hba _ _,?_⟩;have b1:=dX.alloc (Nat.le_refl _) (.cells (relC zam).toArray 27);refine cmo (kL b1) ?_;rintro e Y ⟨rfl,hbY⟩;refine⟨hbY,?_⟩;have b2:=zst b1 hbY;refine cmo kT ?_;rintro e Z ⟨rfl,hbZ⟩;refine⟨hbZ,?_⟩;refine put ((zst b2 hbZ)) (zaa hbZ (zaa hbY (hnew X.drew _))) (Nat.le_refl _) ?_;exact fun Y hY=>⟨X.heap.size,(cvE rfl rfl),hY⟩
  refine cmo (kL dX) ?_;rintro e Y ⟨rfl,hbY⟩;refine⟨hbY,?_⟩;have b1:=zst dX hbY;refine And.intro ?_ ?_
  ·refine⟨hba _ _,?_⟩;have b2:=b1.alloc b1.size (.cells (relC zam).toArray 27);refine cmo kT ?_;rintro e Z ⟨rfl,hbZ⟩;refine⟨hbZ,?_⟩;refine put ((zst b2 hbZ)) (zaa hbZ (hnew Y _)) b1.size ?_;exact fun V hV=>⟨Y.heap.size,(cvE rfl rfl),hV⟩
  ·refine cmo kT ?_;rintro e Z ⟨rfl,hbZ⟩;refine⟨hbZ,?_⟩;have b2:=zst b1 hbZ;refine⟨hba _ _,?_⟩;refine put (b2.alloc b2.size _) (hnew Z _) b2.size ?_;exact fun V hV=>⟨Z.heap.size,(cvE rfl rfl),hV⟩
 clear fF fX hbX;clear X;rintro H X ⟨fH,fF,fX,hbX⟩;refine⟨Unit,fun _=>⟨[(0,u8 m),(3,At0 L),(5,At0 F)],[]⟩,fun _ Z=>cycQ (zbH x.po (locQ x)).1 x.rf x.co (frQ x)=false/\RelH Z F (frQ x)/\ExH Z L x q c/\Bw w Z,?_,?_⟩
 ·refine⟨relC (zbH x.po (locQ x)).1,zad _,zab fH,hlt fH,?_⟩;refine⟨relC x.rf,zad _,zaw fX (i:=1) (by decide) rfl,hlt fX,?_⟩;refine⟨relC x.co,zad _,zaw fX (i:=2) (by decide) rfl,hlt fX,?_⟩;refine⟨relC (frQ x),zad _,zab fF,hlt fF,?_⟩;refine cmo (zhx whe hv.rf hv.co wfr) ?_;rintro e Y ⟨rfl,hbY⟩;have bY:=zst hbX hbY;refine biE (fun h=>?_) fun h=>?_
  ·refine⟨?_,bY⟩;unfold zcD;rw [if_pos h];rfl
  ·exact⟨(),(cvE rfl rfl),h,zaa hbY fF,zaa hbY fX,bY⟩
 clear fF fX fH hbX;clear X;rintro _ X ⟨hcy,fF,fX,hbX⟩;obtain⟨sp,hsp⟩:∃ sp:Nat->Nat->Nat->Bool,sp=fun a b k=>hasM x.rm a b&&(hasM (frQ x) a k&&hasM x.co k b):=⟨_,rfl⟩;have hsq:zgg x=anyQ x.ev.length fun a=>anyQ x.ev.length fun b=>anyQ x.ev.length fun k=>sp a b k:=by rw [hsp];rfl
 have any_no:∀ {n:Nat} {f:Nat->Bool},(∀ i,i<n->f i=false)->anyQ n f=false:=fun {n f} h=>Bool.eq_false_iff.2 fun hc=>by
  obtain⟨i,hi,hf⟩:=zcQ.1 hc;rw [h i hi] at hf
  cases hf
 refine⟨Unit,fun _=>⟨[(0,u8 m),(3,At0 L),(5,At0 F)],[]⟩,fun _ Z=>zgg x=false/\RelH Z F (frQ x)/\ExH Z L x q c/\Bw w Z,?_,?_⟩
 ·refine⟨Nat,fun a=>⟨[(0,u8 m),(3,At0 L),(5,At0 F),(8,i64 (a:Nat))],[]⟩,fun a Z=>a<=x.ev.length/\(∀ i,i<a->(anyQ x.ev.length fun b=>anyQ x.ev.length fun k=>sp i b k)=false)/\RelH Z F (frQ x)/\ExH Z L x q c/\Bw w Z,fun a=>x.ev.length-a,0,⟨.cons rfl (.cons rfl (.cons rfl (.cons rfl (.nil)))),rfl⟩,⟨Nat.zero_le _,fun i hi=>by omega,fF,fX,hbX⟩,?_⟩;clear fF fX hbX;clear X;rintro a X ⟨ha,ha0,fF,fX,hbX⟩;dsimp only;refine⟨_,zaz (zab fX),?_⟩;refine biE (fun hc=>?_) fun hc=>?_
  ·have hc:(a:Int)<(x.ev.length:Int):=dT hc;have han:a<x.ev.length:=by omega
   refine⟨Nat,fun d=>⟨[(0,u8 m),(3,At0 L),(5,At0 F),(8,i64 (a:Nat)),(9,i64 (d:Nat))],[]⟩,fun d Z=>d<=x.ev.length/\(∀ i,i<d->(anyQ x.ev.length fun k=>sp a i k)=false)/\RelH Z F (frQ x)/\ExH Z L x q c/\Bw w Z,fun d=>x.ev.length-d,0,⟨.cons rfl (.cons rfl (.cons rfl (.cons rfl (.cons rfl (.nil))))),rfl⟩,⟨Nat.zero_le _,fun i hi=>by omega,fF,fX,hbX⟩,?_⟩;clear fF fX hbX;clear X;rintro d X ⟨hd,hd0,fF,fX,hbX⟩;dsimp only;refine⟨_,zaz (zab fX),?_⟩;refine biE (fun hc=>?_) fun hc=>?_
   ·have hc:(d:Int)<(x.ev.length:Int):=dT hc;have hdn:d<x.ev.length:=(by omega);refine⟨Nat,fun k=>⟨[(0,u8 m),(3,At0 L),(5,At0 F),(8,i64 (a:Nat)),(9,i64 (d:Nat)),(10,i64 (k:Nat))],[]⟩,fun k Z=>k<=x.ev.length/\(∀ i,i<k->sp a d i=false)/\RelH Z F (frQ x)/\ExH Z L x q c/\Bw w Z,fun k=>x.ev.length-k,0,⟨.cons rfl (.cons rfl (.cons rfl (.cons rfl (.cons rfl (.cons rfl (.nil)))))),rfl⟩,⟨Nat.zero_le _,fun i hi=>by omega,fF,fX,hbX⟩,?_⟩;clear fF fX hbX;clear X;rintro k X ⟨hk,hk0,fF,fX,hbX⟩;dsimp only;refine⟨_,zaz (zab fX),?_⟩;refine biE (fun hc=>?_) fun hc=>?_
    ·have hc:(k:Int)<(x.ev.length:Int):=dT hc;have hkn:k<x.ev.length:=(by omega);refine⟨relC x.rm,zad _,zaw fX (i:=5) (by decide) rfl,hlt fX,?_⟩;refine cmo (zaX (a:=a) (d:=d) hv.rm (by omega) (by omega)) ?_;rintro e U ⟨rfl,hbU⟩;have fF:=zaa hbU fF;have fX:=zaa hbU fX;replace hbX:=zst hbX hbU;refine biE (fun h1=>?_) fun h1=>?_
     ·refine⟨relC (frQ x),zad _,zab fF,hlt fF,?_⟩;refine cmo (zaX (a:=a) (d:=k) wfr (by omega) (by omega)) ?_;rintro e U ⟨rfl,hbU⟩;have fF:=zaa hbU fF;have fX:=zaa hbU fX;replace hbX:=zst hbX hbU;refine biE (fun h2=>?_) fun h2=>?_
      ·refine⟨relC x.co,zad _,zaw fX (i:=2) (by decide) rfl,hlt fX,?_⟩;refine cmo (zaX (a:=k) (d:=d) hv.co (by omega) (by omega)) ?_;rintro e U ⟨rfl,hbU⟩;have fF:=zaa hbU fF;have fX:=zaa hbU fX;replace hbX:=zst hbX hbU;refine biE (fun h3=>?_) fun h3=>?_
       ·have hs:sp a d k=true:=(by rw [hsp];simp [h1,h2,h3]);have h2:zgg x=true:=(by rw [hsq];exact zcQ.2 ⟨a,han,zcQ.2 ⟨d,hdn,zcQ.2 ⟨k,hkn,hs⟩⟩⟩);refine⟨?_,hbX⟩;unfold zcD;rw [if_neg (by rw [hcy];decide),if_pos h2];rfl
       ·have hs:sp a d k=false:=(by rw [hsp];simp [h1,h2,h3]);refine nxI (by omega) ?_;exact⟨k+1,⟨.cons rfl (.cons rfl (.cons rfl (.cons rfl (.cons rfl (.cons rfl (.nil)))))),rfl⟩,⟨hkn,fun i hi=>(Nat.lt_succ_iff_lt_or_eq.1 hi).elim (hk0 i) fun e2=>by rw [e2];exact hs,fF,fX,hbX⟩,zdc (by omega)⟩
      ·refine brF ?_;have hs:sp a d k=false:=(by rw [hsp];simp [h1,h2]);refine nxI (by omega) ?_;exact⟨k+1,⟨.cons rfl (.cons rfl (.cons rfl (.cons rfl (.cons rfl (.cons rfl (.nil)))))),rfl⟩,⟨hkn,fun i hi=>(Nat.lt_succ_iff_lt_or_eq.1 hi).elim (hk0 i) fun e2=>by rw [e2];exact hs,fF,fX,hbX⟩,zdc (by omega)⟩
     ·refine brF ?_;refine brF ?_;have hs:sp a d k=false:=(by rw [hsp];simp [h1]);refine nxI (by omega) ?_;exact⟨k+1,⟨.cons rfl (.cons rfl (.cons rfl (.cons rfl (.cons rfl (.cons rfl (.nil)))))),rfl⟩,⟨hkn,fun i hi=>(Nat.lt_succ_iff_lt_or_eq.1 hi).elim (hk0 i) fun e2=>by rw [e2];exact hs,fF,fX,hbX⟩,zdc (by omega)⟩
    ·have hc:¬ (k:Int)<(x.ev.length:Int):=dF hc;refine nxI (by omega) ?_;exact⟨d+1,⟨.cons rfl (.cons rfl (.cons rfl (.cons rfl (.cons rfl (.nil))))),rfl⟩,⟨hdn,fun i hi=>(Nat.lt_succ_iff_lt_or_eq.1 hi).elim (hd0 i) fun e2=>by rw [e2];exact any_no fun i hi=>hk0 i (by omega),fF,fX,hbX⟩,zdc (by omega)⟩
   ·have hc:¬ (d:Int)<(x.ev.length:Int):=dF hc;refine nxI (by omega) ?_;exact⟨a+1,⟨.cons rfl (.cons rfl (.cons rfl (.cons rfl (.nil)))),rfl⟩,⟨han,fun i hi=>(Nat.lt_succ_iff_lt_or_eq.1 hi).elim (ha0 i) fun e2=>by rw [e2];exact any_no fun i hi=>hd0 i (by omega),fF,fX,hbX⟩,zdc (by omega)⟩
  ·have hc:¬ (a:Int)<(x.ev.length:Int):=dF hc;exact⟨(),⟨.cons rfl (.cons rfl (.cons rfl (.nil))),rfl⟩,by rw [hsq];exact any_no fun i hi=>ha0 i (by omega),fF,fX,hbX⟩
 clear fF fX hbX;clear X;rintro _ X ⟨hspl,fF,fX,hbX⟩;clear hsp hsq any_no;clear sp;have wsi:WrdR (zc3 x x.rf false).to:=zce (by omega);refine⟨Nat,fun T=>⟨[(0,u8 m),(3,At0 L),(5,At0 F),(11,At0 T)],[]⟩,fun T Z=>(F≠T/\L≠T/\w.heap.size<=T)/\RelH Z T (zc3 x x.rf false)/\RelH Z F (frQ x)/\ExH Z L x q c/\Bw w Z,?_,?_⟩
 ·refine⟨_,zat _ _ _,zab fX,hlt fX,?_⟩;refine⟨relC x.rf,zad _,zaw fX (i:=1) (by decide) rfl,hlt fX,?_⟩;refine cmo (zoa (one:=false) (hv.below hbX) hv.rf) ?_;rintro e Y ⟨rfl,hbY⟩;have bY:=zst hbX hbY;have gF:=zaa hbY fF;have gX:=zaa hbY fX;have h1:=hlt gF;have h2:=hlt gX;refine zak (X:=Y) (v := .agg (relC (zc3 x x.rf false)).toArray) k27 (zad _) (by kernel_rfl) (zas _) fun Z hbZ fZ sZ=>?_;exact⟨Y.heap.size,(cvE rfl rfl),⟨by omega,by omega,bY.size⟩,fZ,zaa hbZ gF,zaa hbZ gX,(zst bY hbZ)⟩
 clear fF fX hbX;clear X;rintro T X ⟨⟨hFT,hLT,hwT⟩,fT,fF,fX,hbX⟩;obtain⟨rfx,hrfx⟩:=nm (if m.toNat=2 then x.rf else zc3 x x.rf false);have wrx:WrdR rfx.to:=by
  rw [hrfx]
  split
  ·exact hv.rf
  ·exact wsi
 have h2:decide (m=2)=decide (m.toNat=2):=decide_eq_decide.2 (zge (n:=2) (by decide));have h1:decide (m=1)=decide (m.toNat=1):=decide_eq_decide.2 (zge (n:=1) (by decide));refine⟨Unit,fun _=>⟨[(0,u8 m),(3,At0 L),(5,At0 F),(11,At0 T)],[]⟩,fun _ Z=>RelH Z T rfx/\RelH Z F (frQ x)/\ExH Z L x q c/\Bw w Z,?_,?_⟩
 ·refine biE (fun h=>?_) fun h=>?_
  ·have h:decide (m=2)=true:=(za4 (x:=m) (y:=2)).symm.trans h;rw [h2] at h;have e5:rfx=x.rf:=by rw [hrfx,if_pos (dT h)]
   refine⟨relC x.rf,zad _,zaw fX (i:=1) (by decide) rfl,hlt fX,?_⟩;refine zcb fT hwT hbX fun Y f o b=>?_;exact⟨(),(cvE rfl rfl),by rw [e5];exact f,(o F hFT).trans fF,(o L hLT).trans fX,b⟩
  ·have h:decide (m=2)=false:=(za4 (x:=m) (y:=2)).symm.trans h;rw [h2] at h;have e5:rfx=zc3 x x.rf false:=by rw [hrfx,if_neg (dF h)]
   exact⟨(),(cvE rfl rfl),by rw [e5];exact fT,fF,fX,hbX⟩
 clear fT fF fX hbX;clear X;rintro _ X ⟨fT,fF,fX,hbX⟩;have wk:WrdR (ze4 m.toNat x).to:=zce (by omega);have hbr:zcD m.toNat x=if (!decide (m.toNat=1)&&cycQ (ze4 m.toNat x) rfx x.co (frQ x))=true then 3 else 0:=by
  unfold zcD;rw [if_neg (by rw [hcy];decide),if_neg (by rw [hspl];decide),hrfx]
 refine DrawE.ord [] [0,1,2,3,4,6,7,8,9,5,10,11] (by kernel_rfl) ?_;have dX:Bw X X.drew:=(Below.refl _ _).drew;have bD:=zst hbX dX;refine biE (fun h=>?_) fun h=>?_
 ·have h:decide (m=1)=false:=(za4 (x:=m) (y:=1)).symm.trans (notB h);rw [h1] at h;refine⟨_,zat _ _ _,zab (hdr fX),hlt (hdr fX),?_⟩;refine⟨relC rfx,zad _,zab (hdr fT),hlt (hdr fT),?_⟩;refine⟨relC x.co,zad _,zaw (hdr fX) (i:=2) (by decide) rfl,hlt (hdr fX),?_⟩;refine⟨relC (frQ x),zad _,zab (hdr fF),hlt (hdr fF),?_⟩;refine cmo (zpm (m:=m) (hv.below bD)) ?_;rintro e Y ⟨rfl,hbY⟩;refine⟨hbY,?_⟩;have bY:=zst bD hbY;refine cmo (zhx wk wrx hv.co wfr) ?_;rintro e Z ⟨rfl,hbZ⟩;refine⟨hbZ,?_⟩;have bZ:=zst bY hbZ;refine biE (fun h3=>?_) fun h3=>?_
  ·have h3:cycQ (ze4 m.toNat x) rfx x.co (frQ x)=true:=h3;refine⟨?_,bZ⟩;rw [hbr,h,h3];rfl
  ·have h3:cycQ (ze4 m.toNat x) rfx x.co (frQ x)=false:=h3;refine⟨?_,bZ⟩;rw [hbr,h,h3];rfl
 ·have h:decide (m=1)=true:=(za4 (x:=m) (y:=1)).symm.trans (notF h);rw [h1] at h;refine brF ?_;refine⟨?_,bD⟩;rw [hbr,h];rfl
end
end Go.Proofs.YtmbghmhjjodgmaaGreatDoor
namespace Go.Sei
def zeU (ns:List Nat):Nat:=ns.foldl (· * ·) 1
theorem zhh (ns:List Nat) (n:Nat):zeU (ns++[n])=zeU ns*n:=by
 unfold zeU;rw [List.foldl_append];rfl
def zm8 (init:List UInt8) (Ts:List (List PathD)):List MixD:=(zeI (Ts.map List.length)).filterMap fun ds=>mixR init (zeX Ts ds)
theorem zhi:∀ (Ts:List (List PathD)) (ds:List Nat) (T:List PathD) (d:Nat),Ts.length=ds.length->zeX (Ts++[T]) (ds++[d])=zeX Ts ds++(match T[d]? with | some P=>[P] | none=>[])
 | [],[],T,d,_=>by
  show (match T[d]? with | some P=>[P] | none=>[])++[]=_;rw [List.append_nil];rfl
 | [],_::_,_,_,h=>by simp at h
 | _::_,[],_,_,h=>by simp at h
 | A::Ts,e::ds,T,d,h=>by
  show (match A[e]? with | some P=>[P] | none=>[])++zeX (Ts++[T]) (ds++[d])=((match A[e]? with | some P=>[P] | none=>[])++zeX Ts ds)++_;rw [zhi Ts ds T d (by simpa using h),List.append_assoc]
theorem zlw (ns:List Nat) (n:Nat):zbh (ns++[n])=zbh ns*n:=by
 rw [zeV];show _*(n*1)=_;rw [Nat.mul_one]
theorem zi5:∀ (ns:List Nat) (a:Nat),ns.foldl (· * ·) a=a*zbh ns
 | [],a=>(Nat.mul_one a).symm
 | n::ns,a=>by
  show ns.foldl (· * ·) (a*n)=a*(n*zbh ns);rw [zi5 ns,Nat.mul_assoc]
theorem zmP:∀ ns:List Nat,zbh ns.reverse=zeU ns:=fun ns=>by
 have h:∀ l:List Nat,zbh l.reverse=zbh l:=fun l=>by
  induction l with
  | nil=>rfl
  | cons n l ih =>
   rw [List.reverse_cons,zlw,ih];exact Nat.mul_comm _ _
 rw [h];unfold zeU;rw [zi5,Nat.one_mul]
end Go.Sei
namespace Go.Proofs.YtmbghmhjjodgmaaGreatDoor
open Go.Vc Go.RowKit Go.Sei
theorem zrk {b o:Nat} {w:World}:Calls Tryz.prog 85 #[.pointer (some ⟨b,o,none⟩)] w fun e w'=>e = .returned (.func (.func 117) #[] #[At0 w.heap.size])/\w'.heap[w.heap.size]?=some (.cells #[.pointer (some ⟨b,o,none⟩)] 171 (0,0))/\w'.heap.size=w.heap.size+1/\Bw w w':=by
 refine cofE 4 [.pointer (some ⟨b,o,none⟩)] Tryz.func85 ?_;exact⟨rfl,hnew w _,wz _ _,(zba w _)⟩
def NInX (B:Nat) (F:Nat->Prop) (Y:World) (x:exE3):Prop:=OwnS evE 54 B Y x.2.1 x.2.2 x.1.ev/\∀ a,x.2.1=some a->F a.block
theorem zgw (B:Nat):zlW 34 61 (NInX B):=by
 rintro F G Y Z x ⟨h1,h2⟩ hs hg;refine⟨h1.same fun a ha=>?_,fun a ha=>hg _ (h2 a ha)⟩;obtain⟨_,_,cur,hc⟩:=zav h1 ha;exact hs _ cur _ (h2 a ha) hc (by decide) (by decide)
theorem zj7 {B B1 bx c0:Nat} {p0:Option Addr} {l0:List exE3} {xs:List ExD} {w W0:World} {Rd:Nat->Prop} {pm:Value} (ho:OwnS exE 34 B w p0 c0 l0) (hn:∀ x∈l0,OwnS evE 54 B w x.2.1 x.2.2 x.1.ev) (hB:B<=w.heap.size)
  (hI:zrD Tryz.prog 117 [At0 bx] xs W0 Rd (StX B1) GvX) (hW0:W0.heap.size<=w.heap.size) (hRd:∀ k,Rd k->k<W0.heap.size/\w.heap[k]?=W0.heap[k]?) (hRB:∀ k,Rd k->k<B\/k=bx) (fb:w.heap[bx]?=some (.cells #[pm] 171 (0,0))) (hB1:B<=B1) (hlen:l0.length+xs.length<=30000) :
  Calls Tryz.prog 84 #[.slice p0 l0.length c0,.func (.func 117) #[] #[At0 bx]] w fun e w'=>(∃ (new:List exE3) (p:Option Addr) (c:Nat),e = .returned (.slice p (l0++new).length c)/\new.map (·.1)=xs/\OwnS exE 34 B w' p c (l0++new)/\∀ x∈l0++new,OwnS evE 54 B w' x.2.1 x.2.2 x.1.ev)/\Below B w w':=by
 refine cofM 13 [.slice p0 l0.length c0,.func (.func 117) #[] #[At0 bx]] (.c .p .p) Tryz.func84 ?_;obtain⟨L,hL⟩:=nm (w.heap.size);refine⟨Unit,fun _=>⟨[(1,.func (.func 117) #[] #[At0 bx]),(2,At0 L)],[]⟩,fun _ X=>X.heap[L]?=some (.cells [.slice p0 l0.length c0].toArray 61 (0,0))/\X.heap.size=L+1/\Bw w X,?_,?_⟩
 ·exact⟨(),⟨.cons rfl (.cons (by rw [hL];rfl) .nil),rfl⟩,by rw [hL];exact hnew w _,by rw [hL];exact wz _ _,(zba w _)⟩
 rintro _ W ⟨fL,sW,hbW⟩;have hbxw:=hlt fb;obtain⟨F0,hF0⟩:∃ F0:Nat->Prop,F0=fun k=>k=L\/(∃ a,p0=some a/\k=a.block)\/∃ x∈l0,∃ a,x.2.1=some a/\k=a.block:=⟨_,rfl⟩;have hF0B:∀ k,F0 k->B<=k/\k<W.heap.size/\(k≠L->k≠bx):=by
  intro k hk;rw [hF0] at hk;rcases hk with rfl | ⟨a,ha,rfl⟩ | ⟨x,hx,a,ha,rfl⟩
  ·exact⟨by omega,by omega,fun h=>(h rfl).elim⟩
  ·obtain⟨h1,h2,cur,h3⟩:=zav ho ha;exact⟨h1,by omega,fun _ e=>by rw [e,fb] at h3;simp at h3⟩
  ·obtain⟨h1,h2,cur,h3⟩:=zav (hn x hx) ha;exact⟨h1,by omega,fun _ e=>by rw [e,fb] at h3;simp at h3⟩
 have hG0:Gath exE 34 61 B W.heap.size L W (NInX B) l0 F0 W:=by
  refine⟨Nat.le_refl _,by rw [hF0];exact .inl rfl,fun k hk=>(hF0B k hk).2.1,⟨p0,c0,fL,ho.below hbW,fun a ha=>by rw [hF0];exact .inr (.inl ⟨a,ha,rfl⟩)⟩,fun x hx=>⟨(hn x hx).below hbW,fun a ha=>by rw [hF0];exact .inr (.inr ⟨x,hx,a,ha,rfl⟩)⟩,Below.refl _ _⟩
 refine zrV (sgOk _) rfl (lb := #[At0 bx]) rfl rfl hI (fun pre vs W k ⟨x,q,c,h1,h2,h3⟩ ⟨x',a,c',h4,h5⟩=>?_) (by have:=hbW.size;omega) (fun k hk=>⟨(hRd k hk).1,?_⟩) (fun pre vs W ⟨x,q,c,_,h,_⟩=>by rw [h];rfl) (by decide)
  F0 (fun pre F Y=>∃ xs',(∃ new,xs'=l0++new/\new.map (·.1)=pre/\new.length<=xs.length)/\Gath exE 34 61 B W.heap.size L W (NInX B) xs' F Y) (fun k hk=>?_) (Gath.iter (zgw B) (by omega)) ⟨l0,⟨[],by simp,rfl,Nat.zero_le _⟩,hG0⟩ ?_ ?_
 ·rw [h2] at h4;have h6:exC x q c=exC x' (some a) c':=by
   have h7:=Value.agg.inj (List.head_eq_of_cons_eq h4);simpa using h7
  have h8:Value.slice q x.ev.length c=Value.slice (some a) x'.ev.length c':=List.head_eq_of_cons_eq h6;have h9:q=some a:=by injection h8
  obtain⟨_,_,cur,hc⟩:=zav h3 h9;rw [h5];exact⟨_,_,_,hc⟩
 ·rw [<- (hRd k hk).2];exact hbW.block k (by have:=(hRd k hk).1;omega)
 ·intro h;obtain⟨h1,h2,h3⟩:=hF0B k h;have h4:=(hRd k hk).1;rcases hRB k hk with h5 | h5
  ·omega
  ·exact h3 (by omega) h5
 ·rintro yl pre x vs F Y hyl hpre ⟨xs',⟨new,rfl,hnew',hnl⟩,hG⟩ ⟨x',q,c,hlast,rfl,oq⟩ hgv hfy ⟨lo,hlo⟩;have hxx:x=x':=by simpa using hlast
  subst hxx;have hYs:=hG.size;refine zak (X:=Y) (v := .agg (exC x q c).toArray) k34 (zat _ _ _) zbK (zdp _ _ _) fun Z hbZ fZ sZ=>?_;have fZ:ExH Z Y.heap.size x q c:=fZ;obtain⟨F1,hF1⟩:∃ F1:Nat->Prop,F1=fun k=>F k\/GvX [.agg (exC x q c).toArray] k:=⟨_,rfl⟩;rw [<- hF1];have hq1:∀ a,q=some a->F1 a.block:=fun a ha=>by
   rw [hF1];exact .inr ⟨x,a,c,by rw [ha],rfl⟩
  have hgq:∀ k,GvX [.agg (exC x q c).toArray] k->∃ a,q=some a/\k=a.block:=by
   rintro k ⟨x',a,c',h4,h5⟩;have h6:exC x q c=exC x' (some a) c':=by
    have h7:=Value.agg.inj (List.head_eq_of_cons_eq h4);simpa using h7
   have h8:Value.slice q x.ev.length c=Value.slice (some a) x'.ev.length c':=List.head_eq_of_cons_eq h6;have h9:q=some a:=by injection h8
   exact⟨a,h9,h5⟩
  have hlt1:∀ k,F1 k->k<Y.heap.size:=fun k hk=>by
   rw [hF1] at hk;rcases hk with hk | hk
   ·exact hG.lt k hk
   ·obtain⟨a,ha,rfl⟩:=hgq k hk;exact (zav oq ha).2.1
  have hFF:∀ k,F k->F1 k:=fun k hk=>by rw [hF1];exact .inl hk
  have hG1:Gath exE 34 61 B W.heap.size L W (NInX B) (l0++new) F1 Z:=by
   obtain⟨p,c',h1,h2,h3⟩:=hG.row;have sZ:=hbZ.size;exact⟨by omega,hFF _ hG.inL,fun k hk=>by have:=hlt1 k hk;omega,⟨p,c',zaa hbZ h1,h2.below hbZ,fun a ha=>hFF _ (h3 a ha)⟩,fun y hy=>⟨(hG.nest y hy).1.below hbZ,fun a ha=>hFF _ ((hG.nest y hy).2 a ha)⟩,hG.old.trans (hbZ.mono (by omega))⟩
  refine⟨rfl,F1,KeepsG.below hbZ fun k hk => .inl hk,⟨_,⟨new,rfl,hnew',hnl⟩,hG1⟩,?_⟩;rintro O Y2 hY2 ⟨xs2,⟨new2,rfl,hnew2,hnl2⟩,hG2⟩;clear hG1 hnew' hnl hG;have hYl:=hlt hlo;have fY:ExH Y2 Y.heap.size x q c:=by rw [hY2];exact (zag (by omega)).trans fZ
  have oq2:OwnS evE 54 B1 Y2 q c x.ev:=by
   rw [hY2];refine (oq.below hbZ).same fun a ha=>zag fun e=>?_;obtain⟨_,_,cur,hc⟩:=zav oq ha;rw [e,hlo] at hc
   cases hc
  obtain⟨p,c',h4,h5,h6⟩:=hG2.row;refine⟨_,zac (zab h4) (i:=0) rfl,?_⟩;refine⟨exC x q c,zat _ _ _,zab fY,hlt fY,?_⟩;obtain⟨nx,hnx⟩:∃ nx:exE3,nx=(x,q,c):=⟨_,rfl⟩;have hen:exC x q c=exE.enc nx:=by rw [hnx];rfl
  have hpl:pre.length<xs.length:=by
   obtain⟨t,ht⟩:=hpre;rw [<- ht];simp only [lap,List.length_cons];omega
  have hn2:new2.length=pre.length:=by rw [<- hnew2,List.length_map]
  refine⟨⟨by decide,by decide,zbK⟩,exE.enc nx,by rw [<- hen];exact zcV (zat _ _ _) zbK,?_⟩;have hw2:W.heap.size<=Y2.heap.size:=hG2.size;obtain⟨v,Y5,hrun,S,hrun2,F',hG',hK',hFF'⟩:=hG2.stepX (P:=Tryz.prog) (ty:=61) (cap1:=1) (zgw B) (by decide) Tryz.underlying61 k34 rfl rfl (by show _=333;exact zbK) k61 rfl (by omega) (by omega) (Below.refl _ _) nx (by rw [lap];omega) (by rw [lap];show (_+1)*2416<=_;omega)
   (fun G Z _ _ h3 h4=>zgw B F1 G Y2 Z nx ⟨by rw [hnx];exact oq2.lower hB1,fun a ha=>by rw [hnx] at ha;exact hq1 a ha⟩ h3 h4) p c' h4
  unfold opsE zdl;refine SatR.mk hrun ?_;refine SatR.mk hrun2 ?_;exact⟨F',⟨_,⟨new2++[nx],by rw [List.append_assoc],by rw [List.map_append,hnew2,hnx];rfl,by rw [lap];show _+1<=_;omega⟩,hG'⟩,hK'⟩
 ·rintro D F Y hD hfD ⟨xs',⟨new,rfl,hnew',hnl⟩,hG⟩ hdef;obtain⟨p,c',h4,h5,h6⟩:=hG.row;refine⟨_,zac (zab h4) (i:=0) rfl,?_⟩;refine⟨_,rfl,hdef,?_⟩;have kp:∀ a:Addr,F a.block->(Y.putObj D (.deferred none)).heap[a.block]?=Y.heap[a.block]?:=fun a h2=>zag fun e=>by rw [<- e] at hfD;exact hfD h2
  exact⟨⟨new,p,c',rfl,hnew',h5.same fun a ha=>kp a (h6 a ha),fun x hx=>(hG.nest x hx).1.same fun a ha=>kp a ((hG.nest x hx).2 a ha)⟩,zbI ((hbW.mono hB).trans hG.old) (by omega) _⟩
structure MixX where
 m:MixD
 q:Option Addr
 c:Nat
 p1:Option Addr
 c1:Nat
 p2:Option Addr
 c2:Nat
 p3:Option Addr
 c3:Nat
 xs:List NatL
 ys:List NatL
def mixC (x:MixX):List Value:=exC x.m.base x.q x.c++[.slice x.p1 x.m.rs.length x.c1,.slice x.p2 x.xs.length x.c2,.slice x.p3 x.ys.length x.c3]
theorem zoO (x:MixX):(mixC x).length=336:=by
 unfold mixC;rw [lap,zat];rfl
theorem zkC (x:MixX):(mixC x).all Value.oneCell'=true:=by
 unfold mixC;rw [List.all_append,zdp];rfl
def mixE:Enc MixX:=⟨mixC,336,zoO,by decide,fun a u hu=>List.all_eq_true.1 (zkC a) u hu⟩
structure NInM (B:Nat) (F:Nat->Prop) (Y:World) (x:MixX):Prop where
 e2:x.xs.map (·.1)=x.m.rs.map (·.2)
 e3:x.ys.map (·.1)=x.m.wr
 ev:RowIn evE 54 B F Y x.q x.c x.m.base.ev
 r1:RowIn natE 3 B F Y x.p1 x.c1 (x.m.rs.map (·.1))
 r2:RowIn zbS 108 B F Y x.p2 x.c2 x.xs
 n2:∀ y∈x.xs,RowIn natE 3 B F Y y.2.1 y.2.2 y.1
 r3:RowIn zbS 108 B F Y x.p3 x.c3 x.ys
 n3:∀ y∈x.ys,RowIn natE 3 B F Y y.2.1 y.2.2 y.1
theorem NInM.same {B:Nat} {F G:Nat->Prop} {Y Z:World} {x:MixX} (h:NInM B F Y x) (k:∀ {α:Type} {E:Enc α} {T c:Nat} {q:Option Addr} {l:List α},T≠119->T≠113->T≠4->RowIn E T B F Y q c l->RowIn E T B G Z q c l):NInM B G Z x :=
 ⟨h.e2,h.e3,k (by decide) (by decide) (by decide) h.ev,k (by decide) (by decide) (by decide) h.r1,k (by decide) (by decide) (by decide) h.r2,fun y hy=>k (by decide) (by decide) (by decide) (h.n2 y hy),k (by decide) (by decide) (by decide) h.r3,fun y hy=>k (by decide) (by decide) (by decide) (h.n3 y hy)⟩
theorem NInM.lower {B B':Nat} {F:Nat->Prop} {Y:World} {x:MixX} (h:NInM B F Y x) (hB:B'<=B):NInM B' (fun k=>B'<=k) Y x:=by
 have k:∀ {α:Type} {E:Enc α} {T c:Nat} {q:Option Addr} {l:List α},RowIn E T B F Y q c l->RowIn E T B' (fun k=>B'<=k) Y q c l:=fun {α E T c q l} hr=>⟨hr.own.lower hB,fun a ha=>(zav (hr.own.lower hB) ha).1⟩;exact⟨h.e2,h.e3,k h.ev,k h.r1,k h.r2,fun y hy=>k (h.n2 y hy),k h.r3,fun y hy=>k (h.n3 y hy)⟩
theorem ziP (B:Nat):zlW 119 113 (NInM B):=by
 rintro F G Y Z x h hs hg;refine h.same fun {α E T c q l} t1 t2 _ hr=>⟨hr.own.same fun a ha=>?_,fun a ha=>hg _ (hr.inF a ha)⟩;obtain⟨_,_,cur,hc⟩:=zav hr.own ha;exact hs _ cur _ (hr.inF a ha) hc t1 t2
abbrev TpR:=List PthR×Option Addr×Nat
def tpE:Enc TpR where
 sz:=1
 enc x:=[.slice x.2.1 x.1.length x.2.2]
 len x:=rfl
 one x v hv:=by
  simp at hv;subst hv;rfl
 pos:=by decide
structure MxS (B:Nat) (Z:World) (L bP:Nat) (ss:List Nat) (ps:Option Addr) (cs:Nat) (ts:List TpR) (pT:Option Addr) (cT:Nat):Prop where
 f0:Z.heap[L]?=some (.cells #[At0 bP] 116 (0,0))
 f1:Z.heap[L+1]?=some (.cells #[.slice none 0 0] 113 (0,0))
 f2:Z.heap[L+2]?=some (.cells #[.bool false] 4 (0,0))
 f3:Z.heap[L+3]?=some (.cells #[.slice pT ts.length cT] 159 (0,0))
 own:OwnS natE 3 B Z ps cs ss
 rk:OwnS tpE 160 B Z pT cT ts
 n1:∀ z∈ts,OwnS pthE 168 B Z z.2.1 z.2.2 z.1
 n2:∀ z∈ts,∀ x∈z.1,PthO B Z x
theorem PthO.same {B:Nat} {Y Z:World} {x:PthR} (h:PthO B Y x) (k:∀ {α:Type} {E:Enc α} {T c:Nat} {q:Option Addr} {l:List α},T=54\/T=238->OwnS E T B Y q c l->OwnS E T B Z q c l):PthO B Z x :=
 ⟨k (.inl rfl) h.1,k (.inr rfl) h.2.1,k (.inr rfl) h.2.2.1,k (.inr rfl) h.2.2.2⟩
theorem MxS.below {B:Nat} {Z Y:World} {L bP:Nat} {ss:List Nat} {ps:Option Addr} {cs:Nat} {ts:List TpR} {pT:Option Addr} {cT:Nat} (h:MxS B Z L bP ss ps cs ts pT cT) (hb:Bw Z Y):MxS B Y L bP ss ps cs ts pT cT :=
 ⟨zaa hb h.f0,zaa hb h.f1,zaa hb h.f2,zaa hb h.f3,h.own.below hb,h.rk.below hb,fun z hz=>(h.n1 z hz).below hb,fun z hz x hx=>(h.n2 z hz x hx).same fun {α E T c q l} _ ho=>ho.below hb⟩
theorem MxS.size {B:Nat} {Z Y:World} {L bP n:Nat} {ss:List Nat} {ps ps':Option Addr} {cs cs':Nat} {ts:List TpR} {pT:Option Addr} {cT:Nat} (h:MxS B Z L bP ss ps cs ts pT cT) (ho:OwnS natE 3 B Y ps' cs' (ss++[n])) (g:Z.grownBy Y (ps.map Addr.block)):MxS B Y L bP (ss++[n]) ps' cs' ts pT cT :=
 ⟨za0 h.f0 h.own (by decide) g,za0 h.f1 h.own (by decide) g,za0 h.f2 h.own (by decide) g,za0 h.f3 h.own (by decide) g,ho,zcg h.rk h.own (by decide) g,fun z hz=>zcg (h.n1 z hz) h.own (by decide) g,fun z hz x hx=>(h.n2 z hz x hx).same fun {α E T c q l} ht hoo=>zcg hoo h.own (by rcases ht with rfl | rfl <;> decide) g⟩
theorem appT {B c:Nat} {V1:World} {p:Option Addr} {l:List TpR} {y:TpR} {a:Addr} (ho:OwnS tpE 160 B V1 p c l) (ha:zax V1 a ([y].flatMap tpE.enc)) (hB:B<=V1.heap.size) (hl:l.length<=100000) {K:Value->World->Prop}
  (h:∀ p' c' w',OwnS tpE 160 B w' p' c' (l++[y])->V1.grownBy w' (p.map Addr.block)->(∀ a,p'=some a->p=some a\/a.block=V1.heap.size)->K (.slice p' (l++[y]).length c') w') :
  SatR ((Builtin.append_ #[159,159] 159 #[.slice p l.length c,.slice (some a) 1 1]).run Tryz.prog V1) K :=
 zbJ (E:=tpE) (T:=160) (B:=B) (l:=l) (news:=[y]) (cap:=c) (m:=1) Tryz.underlying159 k160 rfl rfl rfl ho rfl ha hB (by omega) (by show (l.length+1)*24<=_;omega) fun p' c' w' a1 a2 _ a4=>h p' c' w' a1 (by rw [zcN] at a2;exact a2) a4
theorem appP {B c:Nat} {V1:World} {p:Option Addr} {l:List PthR} {y:PthR} {a:Addr} (ho:OwnS pthE 168 B V1 p c l) (ha:zax V1 a ([y].flatMap pthE.enc)) (hB:B<=V1.heap.size) (hl:l.length<=100000) {K:Value->World->Prop}
  (h:∀ p' c' w',OwnS pthE 168 B w' p' c' (l++[y])->V1.grownBy w' (p.map Addr.block)->(∀ a,p'=some a->p=some a\/a.block=V1.heap.size)->K (.slice p' (l++[y]).length c') w') :
  SatR ((Builtin.append_ #[160,160] 160 #[.slice p l.length c,.slice (some a) 1 1]).run Tryz.prog V1) K :=
 zbJ (E:=pthE) (T:=168) (B:=B) (l:=l) (news:=[y]) (cap:=c) (m:=1) Tryz.underlying160 k168 rfl rfl rfl ho rfl ha hB (by omega) (by show (l.length+1)*104<=_;omega) fun p' c' w' a1 a2 _ a4=>h p' c' w' a1 (by rw [zcN] at a2;exact a2) a4
structure ThrQ (V:List UInt8) (l:List InsD):Prop where
 l12:l.length<=12
 ex:∀ x∈l,ExOk x
 ok:zb0 l 6=true
 m:(zdd l (ded V)).length<=4096
abbrev zaE (V:List UInt8) (l:List InsD):List PathD:=(zdd l (ded V)).map zfq
def wrE (R:RunD) (i:Nat) (v:UInt8):Bool:=(List.range i).any fun j=>decide ((R.ev j).k=2)&&decide ((R.ev j).v=v)
def wrL (rs:List RunD) (v:UInt8):Bool:=rs.any fun R=>wrE R R.many v
theorem zle (rs:List RunD):zcr rs=zaZ.filter (wrL rs):=rfl
def wrC (f:UInt8->Bool):List Value:=seg 256 fun i => .bool (f (UInt8.ofNat i))
theorem zl9 (f:UInt8->Bool) {i:Nat} (h:i<256):(wrC f)[i]?=some (.bool (f (UInt8.ofNat i))):=zeP _ h
theorem zpV (f:UInt8->Bool) (x:UInt8):(wrC f).set x.toNat (.bool true)=wrC fun v=>f v||decide (x=v):=by
 have hx:=x.toNat_lt;apply List.ext_getElem?;intro j;by_cases hj:j<256
 ·rw [zl9 _ hj];by_cases e:x.toNat=j
  ·subst e;rw [List.getElem?_set_self (by unfold wrC;rw [zay];exact hx),UInt8.ofNat_toNat,decide_eq_true rfl,Bool.or_true]
  ·rw [List.getElem?_set_ne e,zl9 _ hj];have:x≠UInt8.ofNat j:=fun h=>e (by rw [h,UInt8.toNat_ofNat'];omega);rw [decide_eq_false this,Bool.or_false]
 ·rw [List.getElem?_eq_none (by unfold wrC;rw [List.length_set,zay];omega),List.getElem?_eq_none (by unfold wrC;rw [zay];omega)]
theorem zl8 (f:UInt8->Bool):(wrC f).length=256:=zay _ _
theorem zoh (rs:List RunD) (R:RunD) (v:UInt8):wrL (rs++[R]) v=(wrL rs v||wrE R R.many v):=by
 unfold wrL;rw [List.any_append];simp
theorem zoi (R:RunD) (i:Nat) (v:UInt8):wrE R (i+1) v=(wrE R i v||(decide ((R.ev i).k=2)&&decide ((R.ev i).v=v))):=by
 unfold wrE;rw [List.range_succ,List.any_append];simp
theorem zlK (p:UInt8->Bool) (x:UInt8):[x].filter p=if p x=true then [x] else []:=by
 rw [List.filter_cons,List.filter_nil]
theorem zpc {k:Nat} (h:k<256):∃ hl:k<zaZ.length,zaZ[k]=UInt8.ofNat k:=by
 have hl:zaZ.length=256:=by unfold zaZ;rw [List.length_map,List.length_range]
 refine⟨by rw [hl];exact h,?_⟩;simp [zaZ]
theorem ztwr:List.replicate 256 (Value.bool false)=wrC fun _=>false:=by kernel_rfl
section
variable {l:List InsD} {dom:List UInt8} {q p:Option Addr} {cap cd:Nat} {w:World}
theorem zog (hl:SlR insE w q l) (hp:SlR zaU w p dom) (h12:l.length<=12) (hx:∀ x∈l,ExOk x) (hR:∀ R∈zdd l dom,R.many<=24) (hm:(zdd l dom).length<=4096) (hqb:∀ a,q=some a->a.block<w.heap.size) (hpb:∀ a,p=some a->a.block<w.heap.size) (hdl:dom.length<=1000) :
  Calls Tryz.prog 113 #[.slice q l.length cap,.slice p dom.length cd] w fun e w'=>(∃ (p':Option Addr) (c':Nat),e = .returned (.tuple #[.slice p' (zcr (zdd l dom)).length c',.bool true])/\OwnS zaU 5 w.heap.size w' p' c' (zcr (zdd l dom)))/\Bw w w':=by
 refine cofM 55 [.slice q l.length cap,.slice p dom.length cd] (.c .p (.c .p (.c .p (.c .p (.s .p (.c .p .p)))))) Tryz.func113 ?_;obtain⟨L,hL⟩:=nm (w.heap.size);refine⟨Unit,fun _=>⟨[(0,.slice q l.length cap),(1,.slice p dom.length cd),(4,AtR L),(5,AtR (L+1))],[]⟩,fun _ X=>X.heap[L]?=some (.cells #[.slice none 0 0] 65 (0,0))/\X.heap[L+1]?=some (.cells #[.bool false] 4 (0,0))/\X.heap.size=L+2/\Bw w X,?_,?_⟩
 ·have s1:=wz w (.cells #[.slice none 0 0] 65);have h2:=hnew (w.alloc (.cells #[.slice none 0 0] 65)) (.cells #[.bool false] 4);have s2:=wz (w.alloc (.cells #[.slice none 0 0] 65)) (.cells #[.bool false] 4);rw [s1] at h2 s2;refine⟨(),⟨.cons rfl (.cons rfl (.cons (by rw [hL];rfl) (.cons (by rw [hL,<- s1];rfl) .nil))),rfl⟩,?_,?_,?_,?_⟩
  ·rw [hL];exact hold _ (hnew w _)
  ·rw [hL];exact h2
  ·rw [hL];exact s2
  ·exact ((zba w _)).alloc (by simp) _
 rintro _ X ⟨f0,f1,sX,hbX⟩;refine⟨Unit,fun _=>⟨[(0,.slice q l.length cap),(1,.slice p dom.length cd),(4,AtR L),(5,AtR (L+1)),(6,AtR (L+2))],[]⟩,fun _ Y=>Y.heap[L+2]?=some (.cells (wrC fun _=>false).toArray 193 (0,0))/\Y.heap.size=L+3/\Bw X Y,?_,?_⟩
 ·refine⟨(),⟨.cons rfl (.cons rfl (.cons rfl (.cons rfl (.cons (by rw [<- sX];rfl) .nil)))),rfl⟩,?_,?_,?_⟩
  ·rw [<- sX,<- ztwr];exact hnew X _
  ·have:=wz X (.cells (List.replicate 256 (Value.bool false)).toArray 193);rw [sX] at this;exact this
  ·exact (zba X _)
 rintro _ Y ⟨f2,sY,hbY⟩;refine⟨Unit,fun _=>⟨[(0,.slice q l.length cap),(1,.slice p dom.length cd),(4,AtR L),(5,AtR (L+1)),(6,AtR (L+2)),(7,AtR (L+3))],[]⟩,fun _ Z=>Z.heap[L+3]?=some (.cells [i64 (0:Nat)].toArray 3 (0,0))/\Z.heap.size=L+4/\Bw Y Z,?_,?_⟩
 ·refine zak (X:=Y) (v:=i64 0) k3 rfl rfl rfl fun Z hbZ fZ sZ=>?_;rw [sY] at fZ sZ;exact⟨(),⟨.cons rfl (.cons rfl (.cons rfl (.cons rfl (.cons rfl (.cons (by rw [<- sY];rfl) .nil))))),rfl⟩,fZ,sZ,hbZ⟩
 rintro _ V ⟨f3,sV,hbV⟩;have hXV:Bw X V:=zst hbY hbV;have hwV:=zst hbX hXV;have f0:=zaa hXV f0;have f1:=zaa hXV f1;have f2:=zaa hbV f2;clear hbX hbY hbV hXV;obtain⟨xs,hxs⟩:=nm (zdd l dom);rw [<- hxs] at hR hm ⊢;refine⟨Nat,fun D1=>⟨[(4,AtR L),(5,AtR (L+1)),(6,AtR (L+2))],[{ target := .collected D1,args := #[] }]⟩,fun D1 U=>U.heap[L+2]?=some (.cells (wrC (wrL xs)).toArray 193 (0,0))/\U.heap[D1]?=some (.deferred (some []))/\L+2<D1/\Below (L+2) V U,?_,?_⟩
 ·refine cmo zjU ?_;rintro e W ⟨rfl,fi,fd,sW,hbW⟩;have hwW:=zst hwV hbW;have hI:=znz (q:=q) (p:=p) (hl.below hwW) (hp.below hwW) fi fd (fun a ha=>by have:=hqb a ha;have:=hwW.size;omega) (fun a ha=>by have:=hpb a ha;have:=hwW.size;omega) h12 hx hdl;rw [<- hxs] at hI;obtain⟨J,hJ⟩:∃ J:List RunD->World->Prop,J=fun pre Y=>W.heap.size<=Y.heap.size/\Y.heap[L+2]?=some (.cells (wrC (wrL pre)).toArray 193 (0,0))/\Y.heap[L+3]?=some (.cells [i64 pre.length].toArray 3 (0,0))/\Below (L+2) W Y:=⟨_,rfl⟩;obtain⟨F0,hF0⟩:∃ F0:Nat->Prop,F0=fun k=>k=L+2\/k=L+3:=⟨_,rfl⟩;refine zfH (sgOk _) rfl (lb := #[AtR V.heap.size,AtR (V.heap.size+1)]) rfl rfl hI (Nat.le_refl _) (fun k hk=>⟨?_,rfl⟩) (fun pre vs W ⟨R,b,_,h,_⟩=>by rw [h];rfl) (by decide)
   F0 (fun pre F Y=>F=F0/\J pre Y) (fun _ _ _ _=>False) (fun k hk=>?_)
   (joG (F:=F0) (J:=J) (fun k h=>by rw [hF0] at h;omega) (fun s A h=>by rw [hJ] at h;exact h.1) (fun pre A B h hb=>by
    rw [hJ] at h ⊢;obtain⟨h1,h2,h3,h4⟩:=h;exact⟨Nat.le_trans h1 hb.size,zci hb (by omega) h2,zci hb (by omega) h3,h4.trans (hb.mono (by omega))⟩))
   (fun ex=>⟨fun _ _ _ _ h=>h.elim,fun _ _ _ _ h=>h.elim⟩) ⟨rfl,by rw [hJ];exact⟨Nat.le_refl _,zaa hbW f2,zaa hbW f3,Below.refl _ _⟩⟩ ?_ ?_ ?_
  ·rcases hk with ((rfl | rfl) | ⟨a,ha,rfl⟩ | ⟨a,ha,rfl⟩) | h
   ·omega
   ·omega
   ·have:=hqb a ha;have:=hwW.size;omega
   ·have:=hpb a ha;have:=hwW.size;omega
   ·exact h.elim
  ·rw [hF0];rcases hk with (rfl | rfl) | ⟨a,ha,rfl⟩ | ⟨a,ha,rfl⟩
   ·omega
   ·omega
   ·have:=hqb a ha;omega
   ·have:=hpb a ha;omega
  ·rintro yl pre x vs F Y hyl hpre hJ0 ⟨R,b,hlast,rfl,fR⟩ hfy ⟨lo,hlo⟩;have hxR:x=R:=by simpa using hlast
   subst hxR;refine⟨rfl,F,KeepsG.refl _ _,hJ0,?_⟩;rintro o Y2 hY2 ⟨rfl,hJ2⟩;rw [hJ] at hJ2;obtain⟨h1,h2,h3,h4⟩:=hJ2;have hbl:b≠yl:=fun e=>by
    rw [e] at fR;rw [fR] at hlo
    cases hlo
   have fR2:RunH Y2 b x:=by rw [hY2];exact (zag hbl).trans fR
   have r1:=hR x (hpre.subset (by simp));have hpl:pre.length<xs.length:=by
    obtain⟨t,ht⟩:=hpre;rw [<- ht];simp only [lap,List.length_cons];omega
   refine⟨_,zac (zab h3) (i:=0) rfl,?_⟩;refine brN (decide_eq_false (by omega)) ?_;refine⟨_,zac (zab h3) (i:=0) rfl,?_⟩;refine⟨((pre.length+1:Nat):Int),(zaj (by omega)).trans (by omega),?_⟩;refine zar k3 h3 (o:=0) (v:=i64 (pre.length+1:Nat)) rfl rfl (by show 0<1;decide) rfl fun Z fZ gZ sZ=>?_;have fRZ:RunH Z b x:=(gZ.block b (hlt fR2) (fun e=>by
    have e:b=L+3:=(by simpa using e);rw [e] at fR2;rw [fR2] at h3;simp at h3)).trans fR2
   have f2Z:=(gZ.block (L+2) (hlt h2) (by simp)).trans h2;have kZ:KeepsG F F Y2 Z:=KeepsG.grown gZ (by rw [hF0];exact .inr rfl);have bZ:Below (L+2) W Z:=h4.trans (zao gZ (by omega) (by omega));refine DrawE.ord [] [0,1,2,3,4,5,6,7,8,9] (by kernel_rfl) ?_;have hdZ:Bw Z Z.drew:=(Below.refl _ _).drew;refine⟨_,zac (zab (hdr fRZ)) (i:=18) (zdJ x),?_⟩;refine⟨x.many,rfl,r1,?_⟩;have ecut:zbt (some ⟨b,0+19,none⟩) 24 0 7=some ⟨b,19,none⟩:=by rw [zd9,Nat.zero_add]
   refine⟨Nat,fun i=>⟨[(6,AtR (L+2)),(7,AtR (L+3)),(29,.slice (some ⟨b,19,none⟩) (x.many-0) (24-0)),(30,i64 (x.many:Nat)),(31,i64 (i:Nat))],[]⟩,
    fun i T=>i<=x.many/\T.heap[L+2]?=some (.cells (wrC fun v=>wrL pre v||wrE x i v).toArray 193 (0,0))/\RunH T b x/\T.heap[L+3]?=some (.cells [i64 (pre.length+1:Nat)].toArray 3 (0,0))/\KeepsG F F Y2 T/\Below (L+2) W T,fun i=>x.many-i,0,
    ⟨.cons rfl (.cons rfl (.cons (by rw [<- ecut];rfl) (.cons rfl (.cons rfl .nil)))),rfl⟩,⟨Nat.zero_le _,?_,hdr fRZ,hdr fZ,kZ.trans (KeepsG.below hdZ fun k h => .inl h),bZ.drew⟩,?_⟩
   ·have e:(fun v=>wrL pre v||wrE x 0 v)=wrL pre:=by
     funext v;show (wrL pre v||false)=_;rw [Bool.or_false]
    rw [e];exact f2Z
   rintro i T ⟨hi,t2,tR,t3,kT,bT⟩;have hTs:=kT.size;refine biE (fun hc=>?_) fun hc=>?_
   ·have hc:(i:Int)<(x.many:Int):=dT hc;have him:i<x.many:=(by omega);refine⟨i,rfl,him,?_⟩;have hev:zax T ⟨b,19+i*7,none⟩ (evE.enc (x.ev i)):=by
     have:=zaC (n:=i*7) (m:=7) (zmy tR);rw [zpM x.ev (show i<24 by omega)] at this;exact this
    refine⟨evE.enc (x.ev i),rfl,hev,hlt tR,?_⟩;refine zak (X:=T) (v := .agg (evE.enc (x.ev i)).toArray) k54 rfl rfl rfl fun T2 hb2 fT2 sT2=>?_;have k2:KeepsG F F Y2 T2:=kT.trans (KeepsG.below hb2 fun k h => .inl h);have b2:Below (L+2) W T2:=bT.trans (hb2.mono (by omega));have n1:=zoi x i;refine⟨_,zac (zab fT2) (i:=1) rfl,?_⟩;have u2:=zaa hb2 t2;have uR:=zaa hb2 tR;have u3:=zaa hb2 t3;refine biE (fun hk=>?_) fun hk=>?_
    ·have hk:(x.ev i).k=2:=zbj.1 (dT hk);refine⟨_,zac (zab fT2) (i:=3) rfl,?_⟩;refine⟨((x.ev i).v).toNat,rfl,((x.ev i).v).toNat_lt,?_⟩;refine zar k4 u2 (o:=0+((x.ev i).v).toNat*1) (v := .bool true) rfl rfl (by rw [zl8];have:=((x.ev i).v).toNat_lt;omega) rfl fun T3 fT3 gT3 sT3=>?_;rw [Nat.zero_add,Nat.mul_one,zpV] at fT3;have k3:KeepsG F F Y2 T3:=k2.trans (KeepsG.grown gT3 (by rw [hF0];exact .inl rfl));have hT2s:=k2.size;refine nxI (by omega) ?_;refine⟨i+1,(cvE rfl rfl),⟨him,?_,(gT3.block b (hlt uR) (fun e=>by
      have e:b=L+2:=(by simpa using e);rw [e] at uR;rw [uR] at u2;simp at u2)).trans uR,(gT3.block (L+3) (hlt u3) (by simp)).trans u3,k3,b2.trans (zao gT3 (by omega) (Nat.le_refl _))⟩,zdc (by omega)⟩
     have e:(fun v=>wrL pre v||wrE x (i+1) v)=fun v=>(wrL pre v||wrE x i v)||decide ((x.ev i).v=v):=by
      funext v;rw [n1,decide_eq_true hk,Bool.true_and,Bool.or_assoc]
     rw [e];exact fT3
    ·have hk:¬ (x.ev i).k=2:=fun e=>(dF hk) (by rw [e];rfl);refine nxI (by omega) ?_;refine⟨i+1,(cvE rfl rfl),⟨him,?_,uR,u3,k2,b2⟩,zdc (by omega)⟩;have e:(fun v=>wrL pre v||wrE x (i+1) v)=fun v=>(wrL pre v||wrE x i v):=by
      funext v;rw [n1,decide_eq_false hk,Bool.false_and,Bool.or_false]
     rw [e];exact u2
   ·have hc:¬ (i:Int)<(x.many:Int):=dF hc;obtain rfl:i=x.many:=(by omega);refine⟨F,⟨rfl,?_⟩,kT⟩;rw [hJ];refine⟨by omega,?_,by rw [lap];exact t3,bT⟩;have e:wrL (pre++[x])=fun v=>wrL pre v||wrE x x.many v:=by
     funext v;exact zoh pre x v
    rw [e];exact t2
  ·rintro D1 F Y hD hfD ⟨rfl,hj⟩ hdef;rw [hJ] at hj;obtain⟨h1,h2,h3,h4⟩:=hj;exact⟨D1,(cvE rfl rfl),h2,hdef,by omega,(hbW.mono (by omega)).trans h4⟩
  ·rintro D ex pre F Y hD hfD hpre h;exact h.elim
 clear f2 f3;rintro D1 U ⟨f2,fD1,hLD,bU⟩;have f0:U.heap[L]?=some (.cells #[.slice none 0 0] 65 (0,0)):=(bU.block L (by omega)).trans f0;have f1:U.heap[L+1]?=some (.cells #[.bool false] 4 (0,0)):=(bU.block (L+1) (by omega)).trans f1;have hwU:Bw w U:=hwV.trans (bU.mono (by omega));have sU:=hlt f2;have sD:=hlt fD1;clear bU hwV;refine⟨List UInt8×Option Addr×Nat,fun s=>⟨[(4,AtR L),(5,AtR (L+1)),(11,.slice s.2.1 s.1.length s.2.2)],[{ target := .collected D1,args := #[] }]⟩,fun s Z=>s.1=zcr xs/\OwnS zaU 5 U.heap.size Z s.2.1 s.2.2 s.1/\Bw U Z,?_,?_⟩
 ·refine⟨wrC (wrL xs),zl8 _,zab f2,hlt f2,?_⟩;refine⟨Nat×Option Addr×Nat,fun s=>⟨[(4,AtR L),(5,AtR (L+1)),(11,.slice s.2.1 ((zaZ.take s.1).filter (wrL xs)).length s.2.2),(42,.agg (wrC (wrL xs)).toArray),(43,i64 (s.1:Nat))],[{ target := .collected D1,args := #[] }]⟩,
   fun s Z=>s.1<=256/\OwnS zaU 5 U.heap.size Z s.2.1 s.2.2 ((zaZ.take s.1).filter (wrL xs))/\Bw U Z,fun s=>256-s.1,(0,none,0),
   (cvE rfl rfl),⟨Nat.zero_le _,OwnS.nil,Below.refl _ _⟩,?_⟩
  rintro⟨k,r,c⟩ Z ⟨hk,ho,hbZ⟩;dsimp only at hk ho ⊢;have hZs:=hbZ.size;refine biE (fun hc=>?_) fun hc=>?_
  ·have hc:(k:Int)<256:=dT hc;have hk2:k<256:=by omega
   have tk:zaZ.take (k+1)=zaZ.take k++[UInt8.ofNat k]:=by
    obtain⟨hlb,hbk⟩:=zpc hk2;rw [tsg hlb,hbk]
   have fl:(zaZ.take (k+1)).filter (wrL xs)=(zaZ.take k).filter (wrL xs)++(if wrL xs (UInt8.ofNat k)=true then [UInt8.ofNat k] else []):=by
    rw [tk,List.filter_append,zlK]
   have hfl:((zaZ.take k).filter (wrL xs)).length<=256:=by
    have h1:=List.length_filter_le (wrL xs) (zaZ.take k);rw [List.length_take] at h1;omega
   refine⟨k,rfl,hk2,?_⟩;refine zeY (by rw [Nat.mul_one];exact zl9 _ hk2) ?_;refine biE (fun hv=>?_) fun hv=>?_
   ·rw [if_pos hv] at fl;refine⟨_,w8N k,?_⟩;refine⟨⟨by decide,by decide,rfl⟩,zaU.enc (UInt8.ofNat k),rfl,?_⟩;have hba:Bw Z (Z.alloc (.cells (zaU.enc (UInt8.ofNat k)).toArray 5)):=zba _ _;refine zbJ (E:=zaU) (T:=5) (B:=U.heap.size) (l:=(zaZ.take k).filter (wrL xs)) (news:=[UInt8.ofNat k]) (cap:=c) (m:=1) Tryz.underlying65 k5 rfl rfl rfl (ho.below hba) rfl (zbi zaU (UInt8.ofNat k)) (by have:=hba.size;omega) (by omega) (by show (((zaZ.take k).filter (wrL xs)).length+1)*1<=_;omega) ?_;intro p2 c2 T oT gT hbT hat;refine nxI (by omega) ?_;refine⟨(k+1,p2,c2),⟨.cons rfl (.cons rfl (.cons (by rw [fl];rfl) (.cons rfl (.cons rfl .nil)))),rfl⟩,⟨hk2,by show OwnS zaU _ _ _ _ _ ((zaZ.take (k+1)).filter (wrL xs));rw [fl];exact oT,(hbZ.trans (hba.mono hZs)).trans hbT⟩,zdc (by omega)⟩
   ·have hv:wrL xs (UInt8.ofNat k)=false:=hv;rw [hv,if_neg Bool.false_ne_true,List.append_nil] at fl;refine nxI (by omega) ?_;exact⟨(k+1,r,c),⟨.cons rfl (.cons rfl (.cons (by rw [fl];rfl) (.cons rfl (.cons rfl .nil)))),rfl⟩,⟨hk2,by show OwnS zaU _ _ _ _ _ ((zaZ.take (k+1)).filter (wrL xs));rw [fl];exact ho,hbZ⟩,zdc (by omega)⟩
  ·have hc:¬ (k:Int)<256:=dF hc;obtain rfl:k=256:=by omega
   have e:(zaZ.take 256).filter (wrL xs)=zcr xs:=by
    rw [zle,List.take_of_length_le (by unfold zaZ;rw [List.length_map,List.length_range];exact Nat.le_refl _)]
   rw [e] at ho;exact⟨(zcr xs,r,c),⟨.cons rfl (.cons rfl (.cons (by rw [e];rfl) .nil)),rfl⟩,rfl,ho,hbZ⟩
 rintro⟨ys,r,c⟩ Z ⟨rfl,ho,hbZ⟩;dsimp only at ho ⊢;have hZs:=hbZ.size;have g0:=zaa hbZ f0;have g1:=zaa hbZ f1;have gD:=zaa hbZ fD1;refine zar k65 g0 (o:=0) (v := .slice r (zcr xs).length c) rfl rfl (by show 0<1;decide) rfl fun Z1 fZ1 gZ1 sZ1=>?_;have g1':=(gZ1.block (L+1) (hlt g1) (by simp)).trans g1;refine zar k4 g1' (o:=0) (v := .bool true) rfl rfl (by show 0<1;decide) rfl fun Z2 fZ2 gZ2 sZ2=>?_;have k2:∀ k,k<Z.heap.size->k≠L->k≠L+1->Z2.heap[k]?=Z.heap[k]?:=fun k hk n1 n2=>(gZ2.block k (by rw [sZ1];exact hk) (by simpa using n2)).trans (gZ1.block k hk (by simpa using n1));have fZ1':=(gZ2.block L (hlt fZ1) (by simp)).trans fZ1;refine⟨_,rfl,(k2 D1 (hlt gD) (by omega) (by omega)).trans gD,?_⟩;refine⟨.slice r (zcr xs).length c,?_,.bool true,?_,⟨r,c,rfl,?_⟩,?_⟩
 ·exact zac (zab ((zag (by omega)).trans fZ1')) (i:=0) rfl
 ·exact zac (zab ((zag (by omega)).trans fZ2)) (i:=0) rfl
 ·refine OwnS.lower (ho.same fun a ha=>?_) hwU.size;have h:=zdh ho ha;exact (zag (by omega)).trans (k2 _ h.2.1 (by omega) (by omega))
 ·have hwZ:=zst hwU hbZ;exact zbI ((hwZ.trans (zao gZ1 hwZ.size (by omega))).trans (zao gZ2 (by rw [sZ1];exact hwZ.size) (by omega))) (by omega) _
end
end Go.Proofs.YtmbghmhjjodgmaaGreatDoor
