/- For every input, seisinlaw11.CatPlace returns true and its arguments read afterwards as they read before. Conditions: as the given card has them (package-level variables start as the program's text lays them; the copy of the program is pruned to the packages that the seat loads); none is added. -/
import Derived.Test.YtkpkdmipjinoaaaGreatDoorA8
import Derived.Test.YtkpkdmipjinoaaaGreatDoorAKRowCPc
import Derived.Test.YtkpkdmipjinoaaaGreatDoorTie
import Derived.Test.YtkpkdmipjinoaaaGreatDoorCards
set_option linter.unusedSimpArgs false
set_option linter.unusedVariables false
namespace Go.Proofs.YtkpkdmipjinoaaaGreatDoor
open Go.Vc Go.Sei
open Go.ChangeShapes Go.WideShapes Go.ChangeAt Go.RowKit
set_option maxRecDepth 100000 in
theorem catPlace_lifted (os:Os) (started:os.Started) (H:Type) (enc:TypeId×Value->H) :
  ReturnsInHanded {} Tryz.checked os 3 .any (fun w args=>(Rows.catPlaceSpec.pre enc Tryz.prog Tryz.f3 [] false w args/\laidMetH Tryz.prog zbT w)/\sizedMet enc Tryz.prog Tryz.f3 (OpenSpec.ofChange Rows.catPlaceSpec) false w args)
   (Rows.catPlaceSpec.post enc Tryz.prog Tryz.f3 false true false false):=by
 refine zeV (C:=Tryz.checked) (X:=fun w _=>laidMetH Tryz.prog zbT w) (fun _ _ _ hh h=>h.of_heap hh) zod started (by kernel_rfl) Tryz.func3
  (ChangeSpec.witness_shaped (enc:=enc) (C:=Tryz.checked) (os:=os) (X:=fun w _=>laidMetH Tryz.prog zbT w) false (zfe os) #[.string ⟨#[]⟩,.int .u16 0,.string ⟨#[]⟩] 8 rfl (World.shaped_of_RefB (by kernel_rfl) (by kernel_rfl)) (by kernel_rfl) (by kernel_rfl) (by kernel_rfl) (zfl os _)) ?_
 intro W base args ds gs before hval0 hW hL hsh hz;have hval:∀ (j:Nat) t v,Tryz.f3.params[j]?=some t->args[j]?=some v->Value.okWide Tryz.prog W .any base t v:=hval0;have hW':=hW;obtain⟨p,q,hA0,hV,rfl,hfz,hnd⟩:=hW;have hA:DataW.TrodAll enc Tryz.prog W 0 (fun _=>true) true Tryz.f3.params.toList args.toList ds p:=hA0;rw [Tryz.params3] at hA hval;obtain⟨v0,vs0,d0,ds0,p0,q0,hargs0,rfl,rfl,h0,r0⟩:=trodAll_cons hA;obtain⟨v1,vs1,d1,ds1,p1,q1,hargs1,rfl,rfl,h1,r1⟩:=trodAll_cons r0;obtain⟨v2,vs2,d2,ds2,p2,q2,hargs2,rfl,rfl,h2,r2⟩:=trodAll_cons r1;obtain⟨e0,e1,e2⟩:=trodAll_nil r2;subst e0 e1 e2;obtain rfl:args = #[v0,v1,v2]:=by cases args;simp_all
 obtain⟨rfl,rfl⟩:=trodVars_none hV;have hv0:=hval 0 9 v0 rfl rfl;obtain⟨s0,hs0⟩:∃ s:List UInt8,v0=strV s:=by
  unfold Value.okWide at hv0;rw [Tryz.underlying9] at hv0
  cases v0 with
  | string s=>exact⟨s.data.toList,by unfold strV bs;cases s;rfl⟩
  | _=>simp_all [Cell.okWide,Cell.ok]
 subst hs0;have lt0:∀ x∈p0,x.block<W.heap.size:=by obtain⟨m,hm⟩:=h0;exact DataW.trod_lt m _ _ _ hm
 obtain⟨b1,hb1,rfl⟩:=zot Tryz.underlying22 (hval 1 22 v1 rfl rfl);have lt1:∀ x∈p1,x.block<W.heap.size:=by obtain⟨m,hm⟩:=h1;exact DataW.trod_lt m _ _ _ hm
 have hv2:=hval 2 9 v2 rfl rfl;obtain⟨s2,hs2⟩:∃ s:List UInt8,v2=strV s:=by
  unfold Value.okWide at hv2;rw [Tryz.underlying9] at hv2
  cases v2 with
  | string s=>exact⟨s.data.toList,by unfold strV bs;cases s;rfl⟩
  | _=>simp_all [Cell.okWide,Cell.ok]
 subst hs2;have lt2:∀ x∈p2,x.block<W.heap.size:=by obtain⟨m,hm⟩:=h2;exact DataW.trod_lt m _ _ _ hm
 obtain⟨ds',gs',bf',hZ,hwt⟩:=hz;obtain⟨p',q',hA1,_,_,_,_⟩:=hZ;have hA2:DataW.TrodAll enc Tryz.prog W 0 (fun _=>true) true Tryz.f3.params.toList [strV s0,.int .u16 (b1:Nat),strV s2] ds' p':=hA1;rw [Tryz.params3] at hA2 hwt;obtain⟨u0,us0,t0,ts0,o0,oo0,z0,rfl,rfl,k0,m0⟩:=trodAll_cons hA2;obtain⟨u1,us1,t1,ts1,o1,oo1,z1,rfl,rfl,k1,m1⟩:=trodAll_cons m0;obtain⟨u2,us2,t2,ts2,o2,oo2,z2,rfl,rfl,k2,m2⟩:=trodAll_cons m1;simp only [List.cons.injEq] at z0;obtain⟨rfl,rfl⟩:=z0;simp only [List.cons.injEq] at z1;obtain⟨rfl,rfl⟩:=z1;simp only [List.cons.injEq] at z2;obtain⟨rfl,rfl⟩:=z2;have hn0:s0.length<=140737488351232:=by
  obtain⟨s,e1,e2⟩:=zix Tryz.underlying9 hv0 k0 (fun n hn=>hwt n (DataW.weights_mem_each (j:=0) rfl rfl n hn));have e1:s0=s:=by have:=congrArg (fun v=>match v with | Value.string b=>b.data.toList | _=>[]) e1;simpa [strV,bs] using this
  rw [e1];exact e2
 have hn2:s2.length<=140737488351232:=by
  obtain⟨s,e1,e2⟩:=zix Tryz.underlying9 hv2 k2 (fun n hn=>hwt n (DataW.weights_mem_each (j:=2) rfl rfl n hn));have e1:s2=s:=by have:=congrArg (fun v=>match v with | Value.string b=>b.data.toList | _=>[]) e1;simpa [strV,bs] using this
  rw [e1];exact e2
 refine (zlp hb1 hn0 hn2 (zoN (za1 hL hsh).cop (za1 hL hsh).cst (za1 hL hsh).csg (za1 hL hsh).cnd (za1 hL hsh).needs (za1 hL hsh).t64 (za1 hL hsh).t32)).mono fun e W' ⟨he,bel⟩=>?_;subst he;exact⟨_,rfl,_,_,_,[],_,[],hW',trodAll_mk1 (shut_bool Tryz.underlying4 _),(trodAll_cons_mk (Below.trod zdC (by kernel_rfl) (dT (by kernel_rfl)) h0 bel lt0) (trodAll_cons_mk (Below.trod zdC (by kernel_rfl) (dT (by kernel_rfl)) h1 bel lt1) (trodAll_cons_mk (Below.trod zdC (by kernel_rfl) (dT (by kernel_rfl)) h2 bel lt2) trodAll_mk0))),rfl,bel.frame _,fun h=>by cases h⟩
theorem catPlace_holds:Rows.CatPlaceSaid :=
 OpenClaim.holds_of_wide 3 Tryz.f3 rfl rfl rfl rfl rfl rfl rfl ⟨rfl,rfl,rfl,rfl,rfl⟩ rfl rfl rfl rfl rfl (by kernel_rfl) Tryz.func3 zjD
  (dT (by kernel_rfl)) (by unfold Func.isWrapper;first | (rw [if_pos (by decide +kernel)];kernel_rfl) | (rw [if_neg (by decide +kernel)];exact⟨rfl,rfl⟩))
  (fun os started H enc _=>catPlace_lifted os started H enc)
theorem catPlace_card:Rows.CatPlaceCardSaid :=
 Claim7.holds_tied_plain_at .later [] [.data, .data, .data, .data, .data, .data, .data] true (true, "8605bfbf5c8c04165b8b6ab29d639f024005915fcdb4797bbc12d3c1082df2a5") false
  catPlace_holds (fun _ h=>by cases h) (by kernel_rfl) (fun _ h=>by cases h) catPlace_row_tie rfl ⟨rfl,rfl⟩ (by kernel_rfl) rfl
  (fun f fn hf hfn=>by
   obtain rfl : f = 3 := Option.some.inj ((show Tryz.prog.funcNamed "seisin/seisinlaw11.CatPlace" = some 3 by kernel_rfl).symm.trans hf) |>.symm
   obtain rfl:fn=Tryz.f3:=(Option.some.inj (Tryz.func3.symm.trans hfn)).symm;exact⟨by kernel_rfl,fun j t ht=>by
    rw [Tryz.params3] at ht;rcases j with _ | _ | _ | j
    ·obtain rfl:t=9:=(by simpa using ht.symm);exact (show Tryz.prog.wantsStandIn 9=false by kernel_rfl)
    ·obtain rfl:t=22:=(by simpa using ht.symm);exact (show Tryz.prog.wantsStandIn 22=false by kernel_rfl)
    ·obtain rfl:t=9:=(by simpa using ht.symm);exact (show Tryz.prog.wantsStandIn 9=false by kernel_rfl)
    ·simp at ht⟩)
  (by kernel_rfl)
#print axioms catPlace_card
end Go.Proofs.YtkpkdmipjinoaaaGreatDoor
