/- Law 14: MatchOrders. -/
import Derived.Test.YtoadlafdeoklbaaGreatDoorPa39
import Derived.Test.YtoadlafdeoklbaaGreatDoorPa40
import Derived.Test.YtoadlafdeoklbaaGreatDoorPa41
import Derived.Test.YtoadlafdeoklbaaGreatDoorPa43

namespace Go.Proofs.YtoadlafdeoklbaaGreatDoor
open Go.RowKit Go.Maps Go.Shelf

theorem acts_one (l:List Sb)(s:Sb):mtActs (l++ [s])=mtActs l++ [(1,s)]:=by
 unfold mtActs;rw[List.map_append];rfl
theorem Bk2.row {w W W' :World}{d1 d2:Nat}{L1 L2:List Sb}{S:List Nat}(h:Bk2 w W d1 L1 d2 L2)(hk:Keeps W W' S)(hS:∀g∈S,w.heap.size≤g∧∃t cs,Row W g t cs∧t≠64∧t≠75):Bk2 w W' d1 L1 d2 L2:=by
 obtain⟨X1,X2,h1,h2,h3,h4⟩:=h;refine⟨X1,X2,h1.keep hk (fun x hx hxs=> ?_),h2.keep hk (fun x hx hxs=> ?_),h3,h4.trans hk fun y hy hlt=>by have:=(hS y hy).1;omega⟩
 ·obtain⟨_,t,cs,hr,n1,n2⟩:=hS x hxs
  exact h1.far hr n1 n2 hx
 ·obtain⟨_,t,cs,hr,n1,n2⟩:=hS x hxs
  exact h2.far hr n1 n2 hx
/-- Where the first loop stands. -/
structure OdAt (w W:World)(d1 d2:Nat)(L K:List Sb)(v:Value)(j:Nat):Prop where
 bk:Bk2 w W d1 L d2 []
 own:OwnN W w.heap.size 25 3 sbC v K
 ok:KeptOk L K
 le:K.length≤j
 ll:L.length≤j
theorem OwnN.kinds {w W:World}{v:Value}{K:List Sb}(h:OwnN W w.heap.size 25 3 sbC v K):∀g∈v.ownBlock.toList,w.heap.size≤g∧∃t cs,Row W g t cs∧t≠64∧t≠75:=fun g hg=>by
 obtain⟨h1,cs,hr⟩:=h.rows g hg;exact⟨h1,_,cs,hr,by decide,by decide⟩
theorem upd_set0 {K:List Sb}{s:Sb}{k:Nat}(hk:k < K.length):((K.take k).map (mtUpd s)++K.drop k).set k (mtUpd s K[k])=(K.take (k+1)).map (mtUpd s)++K.drop (k+1):=by
 have h1:((K.take k).map (mtUpd s)).length=k:=by rw[List.length_map,List.length_take];omega
 rw[List.set_append_right _ _ (by omega),h1,Nat.sub_self,List.drop_eq_getElem_cons hk,zsz,List.take_succ_eq_append_getElem hk,List.map_append,List.append_assoc];rfl
theorem upd_skip0 {K:List Sb}{s:Sb}{k:Nat}(hk:k < K.length)(h:¬(K[k].f=s.f∧K[k].c=s.c)):(K.take k).map (mtUpd s)++K.drop k=(K.take (k+1)).map (mtUpd s)++K.drop (k+1):=by
 rw[List.drop_eq_getElem_cons hk,List.take_succ_eq_append_getElem hk,List.map_append,List.append_assoc]
 congr 1
 unfold mtUpd;simp[h]
theorem exec_ix {P:Program}{e:Operand→Value}{o:Oper}{W:World}(ty:TypeId)(x i:Operand)(b ol n c m sz p:Nat)(hm:m < n)(hp:ol+m*sz=p)(ho:o.op= .indexAddr ty x i)(hx:e x= .slice (some ⟨b,ol,none⟩) n c)(hi:e i= .int .i64 (m:Nat))
  (hu:P.underlying ty=some (.slice (P.elem ty)):=by kernel_rfl) (hs:∀W,(sizeOf (P.elem ty)).run P W= .ok sz W:=by intro _;kernel_rfl):(execOp e o).run P W= .ok (.value (.pointer (some ⟨b,p,none⟩))) W:=by
 subst hp;have h1:=run_indexAt_slice (P:=P) W ty ⟨b,ol,none⟩ n c .i64 (m:Int) hu;rw[if_pos ⟨by omega,by omega⟩,hs,Result.andThen_ok,Int.toNat_natCast,addr_off]at h1;unfold execOp;simp only[ho,hx,hi,Sem.run_bind,h1,Result.andThen_ok,Sem.run_pure]
theorem OwnN.some_ {w:World}{B:Nat}{e:TypeId}{k:Nat}{α:Type}{f:α→List Value}{A:Option Addr}{c:Nat}{l:List α}(h:OwnN w B e k f (.slice A l.length c) l)(hl:0 < l.length):∃g,A=some ⟨g,0,none⟩:=by
 obtain⟨_,⟨_,h0⟩ | ⟨g,cap,cur,h2,_⟩⟩:=h
 ·omega
 ·injection h2 with e1
  exact⟨g,e1⟩
/-- Kept entries, the first of them laid anew. -/
def updTo (s:Sb)(K:List Sb)(k:Nat):List Sb:=(K.take k).map (mtUpd s)++K.drop k
theorem updTo_len (s:Sb)(K:List Sb)(k:Nat)(h:k≤K.length):(updTo s K k).length=K.length:=by
 unfold updTo;rw[List.length_append,List.length_map,List.length_take,List.length_drop];omega
theorem updTo_get {s:Sb}{K:List Sb}{k:Nat}(h:k < K.length):(updTo s K k)[k]'(by rw[updTo_len _ _ _ (by omega)];exact h)=K[k]:=by
 unfold updTo;rw[List.getElem_append_right (by rw[List.length_map,List.length_take];omega),List.getElem_drop]
 congr 1
 rw[List.length_map,List.length_take];omega
theorem upd_set {K:List Sb}{s:Sb}{k:Nat}(hk:k < K.length):(updTo s K k).set k (mtUpd s K[k])=updTo s K (k+1):=upd_set0 hk
theorem upd_skip {K:List Sb}{s:Sb}{k:Nat}(hk:k < K.length)(h:¬(K[k].f=s.f∧K[k].c=s.c)):updTo s K k=updTo s K (k+1):=upd_skip0 hk h
theorem val_len {s:Sb}(h:mtVal s=true):s.f.length≤200∧s.c.length≤23:=by
 unfold mtVal at h;rw[Bool.and_eq_true]at h;obtain⟨h1,h2⟩:=h;unfold tFilter tSaid at h1;unfold mtSubOk mtCl at h2;simp at h1 h2;exact⟨h1.1.1.2,h2.1.2⟩
theorem updTo_end (s:Sb)(K:List Sb):updTo s K K.length=K.map (mtUpd s):=by
 unfold updTo;rw[List.take_length,List.drop_length,List.append_nil]
set_option maxRecDepth 100000 in
set_option maxHeartbeats 8000000 in
theorem matchOrders_any (w0:World)(A:Option Addr)(c:Nat)(l:List Sb)(nm:List UInt8)(one:Sb)(hm:MaxL w0)(hl:ListG w0 3 sbC A l)(hle:l.length*40≤140737488351232):
  Calls Tryz.prog 4 #[.slice A l.length c,.string ⟨nm.toArray⟩,sbV one] w0 (TruePost w0 true):=by
 obtain⟨NM,hNM⟩:∃S:ByteArray,(⟨nm.toArray⟩:ByteArray)=S:=⟨_,rfl⟩;have hz:NM.size=nm.length:=by rw[←hNM];simp[ByteArray.size]
 obtain⟨OF,hOF⟩:∃S:ByteArray,(⟨one.f.toArray⟩:ByteArray)=S:=⟨_,rfl⟩;obtain⟨OC,hOC⟩:∃S:ByteArray,(⟨one.c.toArray⟩:ByteArray)=S:=⟨_,rfl⟩;obtain⟨oq,hoq⟩:∃q,one.q=q:=⟨_,rfl⟩;have HOO:=zh (And.intro hOF (And.intro hOC hoq));obtain⟨w,hw⟩:∃w,w0.alloc (.cells #[.string OF,.string OC,.int .i64 oq] 25)=w:=⟨_,rfl⟩;have hk0:Keeps w0 w []:=by rw[←hw];exact Keeps.alloc _ _
 have HR0:=zh (show Row w w0.heap.size 25 #[.string OF,.string OC,.int .i64 oq]by rw[←hw];exact Row.new _ _ _);have HK0:=zh hk0;have HKN:=zh (fun(w' :World) (hk:Keeps w w' [])=>(known14_any w' (hm.keeps (hk0.then_ hk))));have HM:=zh (hm.keeps hk0);have HL:=zh (hl.keeps hk0);have HLE:=zh hle;have HNM:=zh hNM;have HZ:=zh hz;rw[hNM];unfold sbV;rw[hOF,hOC,hoq];clear hm hl hz hNM hle hOF hOC hoq hk0
 go_enter Tryz.func4,Tryz.ntmps4
 go_upto_region 1 with fail
 obtain⟨bx,hbx⟩:∃b,w0.heap.size=b:=⟨_,rfl⟩
 try rw[hw]
 rw[hbx]at HR0;simp only[hbx];clear hw hbx
 go_wp2_with fail
 go_loopw [7,8] (fun v i wr=>∃j:Nat,j≤l.length∧i= .int .i64 j∧Hid (OwnN wr w.heap.size 27 4 acC v (mtActs (l.take j))∧Keeps w wr [])) (fun _ i _=>l.length - (intOf i).toNat)
 case atStart=>exact⟨0,by omega,rfl,zh ⟨by simpa [mtActs]using OwnN.nil _ _ _ _ _,Keeps.refl _ _⟩⟩
 case round=>
  obtain⟨j,hj,rfl,HR⟩:=hrel
  by_cases hjl:j < l.length
  ·skip
   have HKr:=zh HR.out.2;obtain⟨b,o,rfl,hb,hc⟩:=(HL.out.keeps HKr.out).at_ hjl;have HT:=zh (acts_snoc hjl);have HAL:=zh (acts_len l j hj);have HOA:=zh HR.out.1;obtain⟨acc,hacc⟩:∃acc,mtActs (l.take j)=acc:=⟨_,rfl⟩;rw[hacc]at HOA HAL HT;have c0:=hc 0 (by omega);have c1:=hc 1 (by omega);have c2:=hc 2 (by omega);obtain⟨⟨xf,xc,xq⟩,hx⟩:∃x,l[j]=x:=⟨_,rfl⟩;rw[hx]at c0 c1 c2 HT;obtain⟨X,hX⟩:∃S:ByteArray,(⟨xf.toArray⟩:ByteArray)=S:=⟨_,rfl⟩;obtain⟨Y,hY⟩:∃S:ByteArray,(⟨xc.toArray⟩:ByteArray)=S:=⟨_,rfl⟩;simp only[sbC,zgz,zgs,Nat.add_zero,hX,hY]at c0 c1 c2;have HXY:=zh (And.intro hX hY);obtain⟨A1,n1,rfl⟩:=OwnN.slice HOA.out;obtain⟨Wc,hWc⟩:∃Wc,wr.alloc (.cells #[.int .i64 1,.string X,.string Y,.int .i64 xq] 27)=Wc:=⟨_,rfl⟩;have kc:Keeps wr Wc []:=by rw[←hWc];exact Keeps.alloc _ _
   have HLa:=zh (show Lies Wc Wc.heap.size (some ⟨wr.heap.size,0,none⟩) (acC (1,⟨xf,xc,xq⟩))from lies_of_row (cs:= #[.int .i64 1,.string X,.string Y,.int .i64 xq]) (by rw[←hWc];exact Row.new _ _ _) (by rw[←HXY.out.1,←HXY.out.2];rfl));have HA:=zh (HOA.out.keeps kc);have HKC:=zh (HKr.out.then_ kc);have hbs:w.heap.size≤Wc.heap.size:=HKC.out.size;have hle:=HLE.out;clear kc hx hX hY hc hb HR
   go_upto_region 5 with fail
   go_wp2_with (at_builtin;refine wpList_append_one elemAc encAc rfl (.tmp 33) (.tmp 39) rfl w.heap.size (.slice A1 acc.length n1) (some ⟨wr.heap.size,0,none⟩) 1 acc (1,⟨xf,xc,xq⟩) rfl rfl HA.out HLa.out (by have:=HAL.out;omega) (by have:=HAL.out;omega) hbs ?_;intro A7 c7 w7 l7 hl7 ho7 hk7 hb7;refine Hid.out ?_)
   refine zh ?_;have HL7:=zh (show l7=mtActs (l.take (j+1))from by rw[hl7.out,HT.out]);have HO7:=zh ho7;have HK7:=zh (show Keeps w w7 []from HKC.out.trans hk7 (fun y hy hlt=>by have:=(HA.out.rows y hy).1;omega));clear ho7 hk7 hb7 hl7 hWc hbs c0 c1 c2
   go_wp2_with fail
   exact⟨⟨j+1,by omega,by go_num,zh ⟨by rw[←HL7.out];exact HO7.out,HK7.out⟩⟩,by simp[intOf];omega⟩
  ·obtain rfl:j=l.length:=by omega
   have HKr:=zh HR.out.2;have HO:=zh HR.out.1;rw[List.take_length]at HO;obtain⟨A1,n1,rfl⟩:=OwnN.slice HO.out;have HAL:=zh (show(mtActs l).length=l.length by simp[mtActs]);have HAO:=zh (acts_one l one);obtain⟨acc,hacc⟩:∃acc,mtActs l=acc:=⟨_,rfl⟩;rw[hacc]at HO HAL HAO;simp only[hacc];have r0:=(HR0.out.keeps (HKr.out)).cell 0;have r1:=(HR0.out.keeps (HKr.out)).cell 1;have r2:=(HR0.out.keeps (HKr.out)).cell 2;simp only[zga,zgz,zgs]at r0 r1 r2;obtain⟨Wc,hWc⟩:∃Wc,wr.alloc (.cells #[.int .i64 1,.string OF,.string OC,.int .i64 oq] 27)=Wc:=⟨_,rfl⟩;have kc:Keeps wr Wc []:=by rw[←hWc];exact Keeps.alloc _ _
   have HLa:=zh (show Lies Wc Wc.heap.size (some ⟨wr.heap.size,0,none⟩) (acC (1,one))from lies_of_row (cs:= #[.int .i64 1,.string OF,.string OC,.int .i64 oq]) (by rw[←hWc];exact Row.new _ _ _) (by rw[←HOO.out.1,←HOO.out.2.1,←HOO.out.2.2];rfl));have HA:=zh (HO.out.keeps kc);have HKC:=zh (HKr.out.then_ kc);have hbs:w.heap.size≤Wc.heap.size:=HKC.out.size;clear kc HR hacc hj hjl
   go_upto_region 6 with fail
   go_wp2_with (at_builtin;refine wpList_append_one elemAc encAc rfl (.tmp 41) (.tmp 44) rfl w.heap.size (.slice A1 acc.length n1) (some ⟨wr.heap.size,0,none⟩) 1 acc (1,one) rfl rfl HA.out HLa.out (by have:=HAL.out;have:=HLE.out;omega) (by have:=HAL.out;have:=HLE.out;omega) hbs ?_;intro A7 c7 w7 l7 hl7 ho7 hk7 hb7;refine Hid.out ?_)
   refine zh ?_;have HL7:=zh (show l7=mtActs (l++ [one])from by rw[hl7.out,HAO.out]);have HK:=zh (show Keeps w w7 []from HKC.out.trans hk7 (fun y hy hlt=>by have:=(HA.out.rows y hy).1;omega));have HFW:=zh (few14_any w7 A7 c7 l7 31 (ho7.at_ encAc).g (by rw[HL7.out];have:=HLE.out;simp[mtActs];omega));rw[HL7.out]at HFW;have hll:l7.length=(mtActs (l++ [one])).length:=by rw[HL7.out]
   rw[hll];clear ho7 hk7 hb7 hl7 hWc hbs r0 r1 r2 hll
   cases hfb:fewB (mtActs (l++ [one])) 31 with
   | false=>
    rw[hfb]at HFW;clear hfb
    go_wp2_with fail
    refine HFW.out.mono ?_;rintro e w2 ⟨rfl,rfl⟩;clear HFW
    go_wp2_with fail
    refine(HKN.out _ HK.out).mono ?_;rintro e w9 ⟨rfl,hk⟩;have HK9:=zh (HK.out.then_ hk);clear hk
    go_wp2_with fail
    go_ret;exact⟨rfl,HK0.out.then_ HK9.out⟩
   | true=>
    rw[hfb]at HFW;have HFB:=zh (few_acts hfb);clear hfb
    by_cases h3:(NM.size:Int) > 300
    ·go_wp2_with fail
     refine HFW.out.mono ?_;rintro e w2 ⟨rfl,rfl⟩;clear HFW
     go_wp2_with fail
     refine(HKN.out _ HK.out).mono ?_;rintro e w9 ⟨rfl,hk⟩;have HK9:=zh (HK.out.then_ hk);clear hk
     go_wp2_with fail
     go_ret;exact⟨rfl,HK0.out.then_ HK9.out⟩
    ·have HN3:=zh (show nm.length≤300 from by have:=HZ.out;omega)
     go_wp2_with fail
     refine HFW.out.mono ?_;rintro e w2 ⟨rfl,rfl⟩;clear HFW
     go_wp2_with fail
     clear h3;refine(mtNew_in w w2 HK.out).mono ?_;rintro e w3 ⟨d1,rfl,hb,_⟩;have HB3:=zh hb;clear hb
     go_wp2_with fail
     refine(mtNew2_in HB3.out).mono ?_;rintro e w4 ⟨d2,rfl,hb,_⟩;have HB4:=zh hb;clear hb HB3 HK
     go_wp2_with fail
     go_loopw [11,12] (fun v i wr=>∃j:Nat,j≤l.length∧i= .int .i64 j∧Hid (∃L K,OdAt w wr d1 d2 L K v j)) (fun _ i _=>l.length - (intOf i).toNat)
     case atStart=>exact⟨0,by omega,rfl,zh ⟨[], [],HB4.out,OwnN.nil _ _ _ _ _,KeptOk.nil,by simp,by simp⟩⟩
     case round=>
      obtain⟨j,hj,rfl,HJ⟩:=hrel
      by_cases hjl:j < l.length
      ·skip
       have hle:(l.length:Int)≤30:=by have:=HFB.out.1;simp at this;omega
       obtain⟨L,K,HA⟩:∃L K,Hid (OdAt w wr d1 d2 L K u11 j):=by
        obtain⟨L,K,h⟩:=HJ.out;exact⟨L,K,zh h⟩
       obtain⟨b,o,rfl,_,_⟩:=HL.out.at_ hjl;obtain⟨⟨xf,xc,xq⟩,hx⟩:∃x,l[j]=x:=⟨_,rfl⟩;have HCW:=zh (show∀W,Keeps w W []→∀i,i < 3→W.cell? ⟨b,o+j*3+i,none⟩=(sbC ⟨xf,xc,xq⟩)[i]? from fun W hk i hi=>by
        rw[←hx];obtain⟨b',o',e,_,hc'⟩:=(HL.out.keeps hk).at_ hjl;injection e with e
        injection e with e1 e2
        subst e1 e2;exact hc' i hi)
       have HF:=zh (HFB.out.2 l[j] (List.mem_append_left _ (List.getElem_mem hjl)));rw[hx]at HF;obtain⟨X,hX⟩:∃S:ByteArray,(⟨xf.toArray⟩:ByteArray)=S:=⟨_,rfl⟩;obtain⟨Y,hY⟩:∃S:ByteArray,(⟨xc.toArray⟩:ByteArray)=S:=⟨_,rfl⟩;have HXY:=zh (And.intro hX hY);clear hx hX hY HJ;have c0:=HCW.out wr (HA.out.bk.k) 0 (by omega);have c1:=HCW.out wr (HA.out.bk.k) 1 (by omega);have c2:=HCW.out wr (HA.out.bk.k) 2 (by omega);simp only[sbC,zgz,zgs,Nat.add_zero,HXY.out.1,HXY.out.2]at c0 c1 c2;have HS1:=zh (show Calls Tryz.prog 12 #[ptr0 d1,.agg #[.string X,.string Y,.int .i64 xq]] wr _ from by
        have h:=HA.out.bk.set HM.out ⟨xf,xc,xq⟩ (Nat.le_trans HF.out.1 (by omega)) (Nat.le_trans HF.out.2 (by omega));unfold sbV at h;rw[HXY.out.1,HXY.out.2]at h;exact h)
       cases hv:mtVal ⟨xf,xc,xq⟩with
       | false=>
        obtain⟨E,hE0,hE⟩:=setA_no hv;have HE:=zh hE;rw[hE]at HS1;clear hv hE
        go_wp2_with fail
        refine HS1.out.mono ?_;rintro e w6 ⟨rfl,hb6,he6⟩;have HB6:=zh hb6;have HO6:=zh (he6.own HA.out.own (by decide) (by decide));clear hb6 he6 HS1 c0 c1 c2
        go_wp2_with fail
        exact⟨⟨j+1,by omega,by go_num,zh ⟨L,K,HB6.out,HO6.out,HA.out.ok,by have:=HA.out.le;omega,by have:=HA.out.ll;omega⟩⟩,by simp[intOf];omega⟩
       | true=>
        have HV:=zh hv;have HE:=zh (setA_yes (L:=L) hv (by have:=HA.out.ll;omega));rw[HE.out]at HS1;have HLN:=zh (show(mtSet L ⟨xf,xc,xq⟩).length≤j+1 from by
         have h:=setA_len HA.out.bk.one.ok ⟨xf,xc,xq⟩;rw[HE.out]at h;have:=HA.out.ll;exact Nat.le_trans h (by omega))
        clear hv
        cases hh:mtHas L xf xc with
        | false=>
         have HH:=zh (show mtHas L (⟨xf,xc,xq⟩:Sb).f (⟨xf,xc,xq⟩:Sb).c=false from hh);simp only[hh]at HS1;clear hh
         go_wp2_with fail
         refine HS1.out.mono ?_;rintro e w6 ⟨rfl,hb6,he6⟩;have HB6:=zh hb6;have HO6:=zh (he6.own HA.out.own (by decide) (by decide));obtain⟨A9,n9,rfl⟩:=OwnN.slice HO6.out;clear hb6 he6 HS1 c0 c1 c2;have c0:=HCW.out w6 (HB6.out.k) 0 (by omega);have c1:=HCW.out w6 (HB6.out.k) 1 (by omega);have c2:=HCW.out w6 (HB6.out.k) 2 (by omega);simp only[sbC,zgz,zgs,Nat.add_zero,HXY.out.1,HXY.out.2]at c0 c1 c2;obtain⟨Wc,hWc⟩:∃Wc,w6.alloc (.cells #[.string X,.string Y,.int .i64 xq] 25)=Wc:=⟨_,rfl⟩;have kc:Keeps w6 Wc []:=by rw[←hWc];exact Keeps.alloc _ _
         have HLa:=zh (show Lies Wc Wc.heap.size (some ⟨w6.heap.size,0,none⟩) (([⟨xf,xc,xq⟩]:List Sb).flatMap sbC)from lies_of_row (cs:= #[.string X,.string Y,.int .i64 xq]) (by rw[←hWc];exact Row.new _ _ _) (by rw[←HXY.out.1,←HXY.out.2];rfl));have HOc:=zh (HO6.out.keeps kc);have HBc:=zh (HB6.out.keeps kc);have hbs:w.heap.size≤Wc.heap.size:=HBc.out.k.size;have HLO:=zh HA.out.le;clear kc
         go_upto_region 15 with fail
         go_wp2_with (at_builtin;refine wpList_append_N elemSub encSb rfl (.tmp 76) (.tmp 81) rfl w.heap.size (.slice A9 K.length n9) (some ⟨w6.heap.size,0,none⟩) 1 1 K [⟨xf,xc,xq⟩] rfl rfl rfl HOc.out HLa.out (by have:=HLO.out;simp;omega) hbs ?_;intro A7 c7 w7b l7 hl7 hlen7 ho7 hk7 hb7;refine Hid.out ?_)
         refine zh ?_;have HL7:=zh hl7.out;have HO7:=zh ho7;have HB7:=zh (HBc.out.row hk7 HOc.out.kinds);clear ho7 hk7 hb7 hl7 hWc hbs hlen7 c0 c1 c2
         go_wp2_with fail
         exact⟨⟨j+1,by omega,by go_num,zh ⟨_,_,HB7.out,HO7.out,by rw[HL7.out];exact HA.out.ok.add HV.out HH.out,by rw[HL7.out];have:=HLO.out;simp;omega,HLN.out⟩⟩,by simp[intOf];omega⟩
        | true=>
         have HH:=zh (show mtHas L (⟨xf,xc,xq⟩:Sb).f (⟨xf,xc,xq⟩:Sb).c=true from hh);have HKP:=zh (show 0 < K.length from by
          obtain⟨y,hy,_⟩:=mtHas_iff.1 hh;exact List.length_pos_of_mem ((HA.out.ok.mem y).1 hy))
         simp only[hh]at HS1;clear hh
         go_wp2_with fail
         refine HS1.out.mono ?_;rintro e w6 ⟨rfl,hb6,he6⟩;have HB6:=zh hb6;have HO6:=zh (he6.own HA.out.own (by decide) (by decide));obtain⟨A9,n9,rfl⟩:=OwnN.slice HO6.out;obtain⟨g,rfl⟩:=HO6.out.some_ HKP.out;have hkl2:K.length≤30:=by have:=HA.out.le;omega
         clear hb6 he6 HS1 c0 c1 c2
         go_wp2_with fail
         go_loopw [15] (fun i wr' =>∃k:Nat,k≤K.length∧i= .int .i64 k∧Hid (OwnN wr' w.heap.size 25 3 sbC (.slice (some ⟨g,0,none⟩) (updTo ⟨xf,xc,xq⟩ K k).length n9) (updTo ⟨xf,xc,xq⟩ K k)∧Bk2 w wr' d1 (mtSet L ⟨xf,xc,xq⟩) d2 [])) (fun i _=>K.length - (intOf i).toNat)
         case atStart=>exact⟨0,by omega,rfl,zh ⟨by simpa [updTo]using HO6.out,HB6.out⟩⟩
         case round=>
          obtain⟨k,hk,rfl,HR⟩:=hrel
          by_cases hkl:k < K.length
          ·have HO:=zh HR.out.1
           have HB:=zh HR.out.2;have HUL:=zh (updTo_len ⟨xf,xc,xq⟩ K k hk);obtain⟨⟨yf,yc,yq⟩,hy⟩:∃x,K[k]=x:=⟨_,rfl⟩;obtain⟨b',o',eA,_,hcA⟩:=(HO.out.at_ encSb).at_ (i:=k) (by rw[HUL.out];exact hkl);injection eA with eA
           injection eA with e1 e2
           subst e1 e2;have HCK:=zh (show∀W,Keeps wr W []→∀i,i < 3→W.cell? ⟨g,0+k*3+i,none⟩=(sbC ⟨yf,yc,yq⟩)[i]? from fun W hk i hi=>by
            obtain⟨b',o',e,_,hc'⟩:=((HO.out.at_ encSb).keeps hk).at_ (i:=k) (by rw[HUL.out];exact hkl);injection e with e
            injection e with e1 e2
            subst e1 e2;have h:=hc' i hi;rw[updTo_get hkl,hy]at h;exact h)
           have HUS:=zh (upd_set (s:=⟨xf,xc,xq⟩) hkl);have HUK:=zh (fun h=>upd_skip (s:=⟨xf,xc,xq⟩) hkl h);rw[hy]at HUS HUK;obtain⟨X2,hX2⟩:∃S:ByteArray,(⟨yf.toArray⟩:ByteArray)=S:=⟨_,rfl⟩;obtain⟨Y2,hY2⟩:∃S:ByteArray,(⟨yc.toArray⟩:ByteArray)=S:=⟨_,rfl⟩;have HXY2:=zh (And.intro hX2 hY2);have HF1:=zh (show(X2.toList==X.toList)=decide (yf=xf)from by rw[←hX2,←HXY.out.1,Lib.toList_data,Lib.toList_data];rw[Bool.eq_iff_iff];simp);have HF2:=zh (show(Y2.toList==Y.toList)=decide (yc=xc)from by rw[←hY2,←HXY.out.2,Lib.toList_data,Lib.toList_data];rw[Bool.eq_iff_iff];simp);have M10:=fun(W:World) (hk:Keeps wr W [])=>HCW.out W (HB.out.k.then_ hk) 0 (by omega)
           have M11:=fun(W:World) (hk:Keeps wr W [])=>HCW.out W (HB.out.k.then_ hk) 1 (by omega)
           have M20:=fun(W:World) (hk:Keeps wr W [])=>HCK.out W hk 0 (by omega)
           have M21:=fun(W:World) (hk:Keeps wr W [])=>HCK.out W hk 1 (by omega)
           simp only[sbC,zgz,zgs,Nat.add_zero,HXY.out.1,HXY.out.2,HXY2.out.1,HXY2.out.2]at M10 M11 M20 M21;clear hy hX2 hY2 hcA HR
           cases h1:(X2.toList==X.toList)with
           | false=>
            have HNE:=zh (show¬(yf=xf∧yc=xc)from fun h=>by
             have h2:=HF1.out;rw[h1,decide_eq_true h.1]at h2
             cases h2)
            go_upto_region 20 with fail
            have LV:LightV ([]:List Iv) KeepsAll (fun _=>KeepsAll):= .all keepsAll_ok keepsAll_ok;refine wp_region_ivs [] KeepsAll (fun _=>KeepsAll) _ 24 LV (by kernel_rfl) rfl (by kernel_rfl) ?_;simp only[zts,ztz,zds,zdz];refine vq_is LV 0 (.slice (some ⟨g,0,none⟩) K.length n9) rfl ?_;simp only[addEnt];refine vq_is LV 1 (.int .i64 (k:Nat)) rfl ?_;simp only[addEnt];refine vq_index LV 2 22 (.tmp 91) (.tmp 92) g 0 (K.length) (n9) (k) 3 rfl (hkl) ?_;simp only[addEnt];refine vq_is LV 3 (.pointer (some ⟨g,0+k*3+0,none⟩)) rfl ?_;simp only[addEnt];refine vq_load LV 4 9 (.tmp 94) ⟨g,0+k*3+0,none⟩ (.string X2) rfl (fun W hW=>M20 W hW) ?_;simp only[addEnt];refine vq_is LV 5 (.slice (some ⟨b,o,none⟩) l.length c) rfl ?_;simp only[addEnt];refine vq_is LV 6 (.int .i64 (j:Nat)) rfl ?_;simp only[addEnt];refine vq_index LV 7 22 (.tmp 96) (.tmp 97) b o (l.length) (c) (j) 3 rfl (hjl) ?_;simp only[addEnt];refine vq_is LV 8 (.pointer (some ⟨b,o+j*3+0,none⟩)) rfl ?_;simp only[addEnt];refine vq_load LV 9 9 (.tmp 99) ⟨b,o+j*3+0,none⟩ (.string X) rfl (fun W hW=>M10 W hW) ?_;simp only[addEnt];apply loosev_is 10 _ rfl
            ·intro W vals hW hkn
             clear hkn;have hC:=hW.c;refine⟨?_⟩;simp only[fill];go_simp
             first | exact⟨LV.stp (Keeps.refl _ _),rfl⟩ | exact⟨LV.stp (Keeps.alloc _ _),rfl⟩
            simp only[addEnt];refine vq_is LV 11 (.bool false) rfl ?_;simp only[addEnt];refine vq_off LV 12 rfl ?_;simp only[addEnt];refine vq_off LV 13 rfl ?_;simp only[addEnt];refine vq_off LV 14 rfl ?_;simp only[addEnt];refine vq_off LV 15 rfl ?_;simp only[addEnt];refine vq_off LV 16 rfl ?_;simp only[addEnt];refine vq_off LV 17 rfl ?_;simp only[addEnt];refine vq_off LV 18 rfl ?_;simp only[addEnt];refine vq_off LV 19 rfl ?_;simp only[addEnt];refine vq_off LV 20 rfl ?_;simp only[addEnt];refine vq_off LV 21 rfl ?_;simp only[addEnt];refine vq_off LV 22 rfl ?_;simp only[addEnt];refine vq_is LV 23 (.bool false) rfl ?_;simp only[addEnt];refine loosev_nil (fun W9 vals hW hkn=> ?_);simp only[knowsAllV]at hkn
            try simp only[and_true]at hkn
            simp only[fill,Act.put,zsa,zsc,zsz];have HK9:=zh (show Keeps wr W9 []from hW);clear hkn LV hW M10 M11 M20 M21
            go_wp2_with fail
            exact⟨⟨k+1,by omega,by go_num,zh ⟨by rw[←HUK.out HNE.out];exact HO.out.keeps HK9.out,HB.out.keeps HK9.out⟩⟩,by simp[intOf];omega⟩
           | true=>
            obtain⟨z3,h3⟩:∃z,(Y2.toList==Y.toList)=z:=⟨_,rfl⟩;have h3' :=h3
            go_upto_region 20 with fail
            have LV:LightV ([]:List Iv) KeepsAll (fun _=>KeepsAll):= .all keepsAll_ok keepsAll_ok;refine wp_region_ivs [] KeepsAll (fun _=>KeepsAll) _ 24 LV (by kernel_rfl) rfl (by kernel_rfl) ?_;simp only[zts,ztz,zds,zdz];refine vq_is LV 0 (.slice (some ⟨g,0,none⟩) K.length n9) rfl ?_;simp only[addEnt];refine vq_is LV 1 (.int .i64 (k:Nat)) rfl ?_;simp only[addEnt];refine vq_index LV 2 22 (.tmp 91) (.tmp 92) g 0 (K.length) (n9) (k) 3 rfl (hkl) ?_;simp only[addEnt];refine vq_is LV 3 (.pointer (some ⟨g,0+k*3+0,none⟩)) rfl ?_;simp only[addEnt];refine vq_load LV 4 9 (.tmp 94) ⟨g,0+k*3+0,none⟩ (.string X2) rfl (fun W hW=>M20 W hW) ?_;simp only[addEnt];refine vq_is LV 5 (.slice (some ⟨b,o,none⟩) l.length c) rfl ?_;simp only[addEnt];refine vq_is LV 6 (.int .i64 (j:Nat)) rfl ?_;simp only[addEnt];refine vq_index LV 7 22 (.tmp 96) (.tmp 97) b o (l.length) (c) (j) 3 rfl (hjl) ?_;simp only[addEnt];refine vq_is LV 8 (.pointer (some ⟨b,o+j*3+0,none⟩)) rfl ?_;simp only[addEnt];refine vq_load LV 9 9 (.tmp 99) ⟨b,o+j*3+0,none⟩ (.string X) rfl (fun W hW=>M10 W hW) ?_;simp only[addEnt];apply loosev_is 10 _ rfl
            ·intro W vals hW hkn
             clear hkn;have hC:=hW.c;refine⟨?_⟩;simp only[fill];go_simp
             first | exact⟨LV.stp (Keeps.refl _ _),rfl⟩ | exact⟨LV.stp (Keeps.alloc _ _),rfl⟩
            simp only[addEnt];refine vq_is LV 11 (.bool true) rfl ?_;simp only[addEnt];refine vq_is LV 12 (.slice (some ⟨g,0,none⟩) K.length n9) rfl ?_;simp only[addEnt];refine vq_is LV 13 (.int .i64 (k:Nat)) rfl ?_;simp only[addEnt];refine vq_index LV 14 22 (.tmp 103) (.tmp 104) g 0 (K.length) (n9) (k) 3 rfl (hkl) ?_;simp only[addEnt];refine vq_is LV 15 (.pointer (some ⟨g,0+k*3+1,none⟩)) rfl ?_;simp only[addEnt];refine vq_load LV 16 9 (.tmp 106) ⟨g,0+k*3+1,none⟩ (.string Y2) rfl (fun W hW=>M21 W hW) ?_;simp only[addEnt];refine vq_is LV 17 (.slice (some ⟨b,o,none⟩) l.length c) rfl ?_;simp only[addEnt];refine vq_is LV 18 (.int .i64 (j:Nat)) rfl ?_;simp only[addEnt];refine vq_index LV 19 22 (.tmp 108) (.tmp 109) b o (l.length) (c) (j) 3 rfl (hjl) ?_;simp only[addEnt];refine vq_is LV 20 (.pointer (some ⟨b,o+j*3+1,none⟩)) rfl ?_;simp only[addEnt];refine vq_load LV 21 9 (.tmp 111) ⟨b,o+j*3+1,none⟩ (.string Y) rfl (fun W hW=>M11 W hW) ?_;simp only[addEnt];apply loosev_is 22 _ rfl
            ·intro W vals hW hkn
             clear hkn;have hC:=hW.c;refine⟨?_⟩;simp only[fill];go_simp
             first | exact⟨LV.stp (Keeps.refl _ _),rfl⟩ | exact⟨LV.stp (Keeps.alloc _ _),rfl⟩
            simp only[addEnt];refine vq_is LV 23 (.bool z3) rfl ?_;simp only[addEnt];refine loosev_nil (fun W9 vals hW hkn=> ?_);simp only[knowsAllV]at hkn
            try simp only[and_true]at hkn
            simp only[fill,Act.put,zsa,zsc,zsz];have HK9:=zh (show Keeps wr W9 []from hW);clear hkn LV hW M10 M11 M20 M21
            cases z3 with
            | false=>
             have HNE:=zh (show¬(yf=xf∧yc=xc)from fun h=>by
              have h2:=HF2.out;rw[h3,decide_eq_true h.2]at h2
              cases h2)
             clear h3 h3'
             go_wp2_with fail
             exact⟨⟨k+1,by omega,by go_num,zh ⟨by rw[←HUK.out HNE.out];exact HO.out.keeps HK9.out,HB.out.keeps HK9.out⟩⟩,by simp[intOf];omega⟩
            | true=>
             have HEQ:=zh (show yf=xf∧yc=xc from by
              have h2:=HF1.out;have h4:=HF2.out;rw[h1]at h2;rw[h3]at h4;exact⟨of_decide_eq_true h2.symm,of_decide_eq_true h4.symm⟩)
             have HO9:=zh (HO.out.keeps HK9.out);have HB9:=zh (HB.out.keeps HK9.out);obtain⟨Z,hZ1,hZ2,hZ3,hZ4⟩:=HO9.out.put encSb (i:=k) (by rw[HUL.out];exact hkl) ⟨xf,xc,xq⟩;have HZZ:=zh (And.intro hZ1 (And.intro hZ2 (And.intro hZ3 hZ4)));have HUE:=zh (show(updTo ⟨xf,xc,xq⟩ K k).set k ⟨xf,xc,xq⟩=updTo ⟨xf,xc,xq⟩ K (k+1)from by
              have h:=HUS.out;have e:mtUpd ⟨xf,xc,xq⟩ ⟨yf,yc,yq⟩=⟨xf,xc,xq⟩:=by unfold mtUpd;rw[if_pos ⟨HEQ.out.1,HEQ.out.2⟩]
              rw[e]at h;exact h)
             have HCX:=zh (show∀i,i < 3→W9.cell? ⟨b,o+j*3+i,none⟩=(sbC ⟨xf,xc,xq⟩)[i]? from fun i hi=>HCW.out W9 HB9.out.k i hi);clear h3 h3' hZ1 hZ2 hZ3 hZ4
             go_upto_region 21 with fail
             refine wp_region_lit ?_;refine wpList_val (.slice (some ⟨g,0,none⟩) K.length n9) rfl (by kernel_rfl) ?_;refine wpList_val (.int .i64 (k:Nat)) rfl (by kernel_rfl) ?_;refine wpList_val (.slice (some ⟨b,o,none⟩) l.length c) rfl (by kernel_rfl) ?_;refine wpList_val (.int .i64 (j:Nat)) rfl (by kernel_rfl) ?_;refine wpList_val (.pointer (some ⟨b,o+j*3,none⟩)) rfl (exec_ix 22 (.tmp 117) (.tmp 118) b o l.length c j 3 (o+j*3) hjl rfl rfl (by kernel_rfl) (by kernel_rfl)) ?_;refine wpList_loadg (by kernel_rfl) 25 (.tmp 119) rfl b (o+j*3) (by kernel_rfl) [.string X,.string Y,.int .i64 xq] _ (fun i v hv=>by
              have hi:i < 3:=(List.getElem?_eq_some_iff.1 hv).1;rw[HCX.out i hi,←hv,←HXY.out.1,←HXY.out.2];rfl) Tryz.underlying25 rfl (by kernel_rfl) ?_
             refine wpList_val (.pointer (some ⟨g,k*3,none⟩)) rfl (exec_ix 22 (.tmp 115) (.tmp 116) g 0 K.length n9 k 3 (k*3) hkl (Nat.zero_add _) rfl (by kernel_rfl) (by kernel_rfl)) ?_;refine wpList_store_mid rfl (.tmp 121) (.tmp 120) 25 25 rfl g (k*3) #[.string X,.string Y,.int .i64 xq] Z HZZ.out.1 (by kernel_rfl) HZZ.out.2.1 (by simp[Value.oneCell']) (by kernel_rfl) (by kernel_rfl) ?_;intro w13 hr13 hk13;have HO13:=zh (show OwnN w13 w.heap.size 25 3 sbC (.slice (some ⟨g,0,none⟩) (updTo ⟨xf,xc,xq⟩ K (k+1)).length n9) (updTo ⟨xf,xc,xq⟩ K (k+1))from by
              have h:=HZZ.out.2.2.2 w13 (by
               rw[show sbC ⟨xf,xc,xq⟩= [.string X,.string Y,.int .i64 xq]by rw[←HXY.out.1,←HXY.out.2];rfl];exact hr13)
              rw[HUE.out]at h;rw[updTo_len _ _ _ hkl,←updTo_len ⟨xf,xc,xq⟩ K k hk];exact h)
             have HB13:=zh (HB9.out.row hk13 (fun g' hg' =>by
              rw[List.mem_singleton.1 hg'];exact⟨HZZ.out.2.2.1,_,_,HZZ.out.1,by decide,by decide⟩))
             clear hr13 hk13;simp only[Act.put,zsa,zsc,zsz]
             go_wp2_with fail
             exact⟨⟨k+1,by omega,by go_num,zh ⟨HO13.out,HB13.out⟩⟩,by simp[intOf];omega⟩
          ·obtain rfl:k=K.length:=by omega
           have HOE:=zh (show OwnN wr w.heap.size 25 3 sbC (.slice (some ⟨g,0,none⟩) (K.map (mtUpd ⟨xf,xc,xq⟩)).length n9) (K.map (mtUpd ⟨xf,xc,xq⟩))from by have h:=HR.out.1;rwa [updTo_end]at h);rw[List.length_map]at HOE;have HBE:=zh HR.out.2;have HLE2:=zh (show(K.map (mtUpd ⟨xf,xc,xq⟩)).length≤j+1 from by rw[List.length_map];have:=HA.out.le;omega);clear HR
           go_wp2_with fail
           exact⟨⟨j+1,by omega,by go_num,zh ⟨_,_,HBE.out,HOE.out,HA.out.ok.upd HV.out HH.out,HLE2.out,HLN.out⟩⟩,by simp[intOf];omega⟩
      ·obtain rfl:j=l.length:=by omega
       have hle:(l.length:Int)≤30:=by have:=HFB.out.1;simp at this;omega
       obtain⟨L,K,HA⟩:∃L K,Hid (OdAt w wr d1 d2 L K u11 l.length):=by
        obtain⟨L,K,h⟩:=HJ.out;exact⟨L,K,zh h⟩
       obtain⟨A9,n9,rfl⟩:=OwnN.slice HA.out.own;have HKL:=zh (show K.length≤30 from by have:=HA.out.le;omega);have HLL:=zh (show L.length≤30 from by have:=HA.out.ll;omega);have HLK:=zh (HA.out.own.at_ encSb);have HOK:=zh HA.out.ok;have HLO:=zh HA.out.bk.one.ok;have HB0:=zh HA.out.bk;clear HJ HA hj hjl;have hkl:=HKL.out;obtain⟨wq,hwq⟩:∃q,wr=q:=⟨_,rfl⟩;rw[hwq]at HLK HB0;rw[hwq];clear hwq
       go_wp2_with fail
       go_loopw [16] (fun i wr' =>∃m:Nat,m≤K.length∧i= .int .i64 ((m:Int) - 1)∧Hid (Bk2 w wr' d1 L d2 (mtAllA [] (K.drop m).reverse)∧Else wq wr')) (fun i _=>(intOf i+1).toNat)
       case atStart=>
        refine⟨K.length,by omega,by go_num,zh ⟨?_,fun _ _ _ h _ _=>h⟩⟩;rw[List.drop_length];exact HB0.out
       case round=>
        obtain⟨m,hm,rfl,HR⟩:=hrel;have hkl:=HKL.out
        by_cases hm0:0 < m
        ·obtain⟨p,rfl⟩:∃p,m=p+1:=⟨m - 1,by omega⟩
         have hpl:p < K.length:=by omega
         have hi:((p+1:Nat):Int) - 1=(p:Int):=by omega
         rw[hi];obtain⟨⟨xf,xc,xq⟩,hx⟩:∃x,K[p]=x:=⟨_,rfl⟩;obtain⟨g,o,rfl,_,_⟩:=HLK.out.at_ hpl;have HC:=zh (show∀i,i < 3→wr.cell? ⟨g,o+p*3+i,none⟩=(sbC ⟨xf,xc,xq⟩)[i]? from fun i hi=>by
          obtain⟨b',o',e,_,hc'⟩:=(HR.out.2.list HLK.out (by decide) (by decide)).at_ hpl;injection e with e
          injection e with e1 e2
          subst e1 e2;rw[←hx];exact hc' i hi)
         have HV:=zh (show mtVal ⟨xf,xc,xq⟩=true from by rw[←hx];exact HOK.out.val _ (List.getElem_mem hpl));have HRV:=zh (show(K.drop p).reverse=(K.drop (p+1)).reverse++ [⟨xf,xc,xq⟩]from by rw[List.drop_eq_getElem_cons hpl,List.reverse_cons,hx]);have HRL:=zh (show(mtAllA [] (K.drop (p+1)).reverse).length < 4096 from by
          have h:=(allA_ok MtOk.nil (K.drop (p+1)).reverse).2;rw[List.length_reverse,List.length_drop]at h;simp only[List.length_nil]at h;omega)
         have HVF:=zh (val_len HV.out);obtain⟨X,hX⟩:∃S:ByteArray,(⟨xf.toArray⟩:ByteArray)=S:=⟨_,rfl⟩;obtain⟨Y,hY⟩:∃S:ByteArray,(⟨xc.toArray⟩:ByteArray)=S:=⟨_,rfl⟩;have HXY:=zh (And.intro hX hY);have c0:=HC.out 0 (by omega);have c1:=HC.out 1 (by omega);have c2:=HC.out 2 (by omega);simp only[sbC,zgz,zgs,Nat.add_zero,hX,hY]at c0 c1 c2;have HS1:=zh (show Calls Tryz.prog 12 #[ptr0 d2,.agg #[.string X,.string Y,.int .i64 xq]] wr _ from by
          have h:=HR.out.1.swap.set HM.out ⟨xf,xc,xq⟩ (Nat.le_trans HVF.out.1 (by omega)) (Nat.le_trans HVF.out.2 (by omega));rw[setA_yes HV.out HRL.out]at h;unfold sbV at h;rw[HXY.out.1,HXY.out.2]at h;exact h)
         clear hx hX hY hi
         go_wp2_with fail
         refine HS1.out.mono ?_;rintro e w6 ⟨rfl,hb6,he6⟩;have HB6:=zh (show Bk2 w w6 d1 L d2 (mtAllA [] (K.drop p).reverse)from by
          rw[HRV.out];have h:=hb6.swap;unfold mtAllA;rw[List.foldl_append];show Bk2 w w6 d1 L d2 (mtSetA (mtAllA [] (K.drop (p+1)).reverse) ⟨xf,xc,xq⟩).1;rw[setA_yes HV.out HRL.out];exact h)
         have HE6:=zh (show Else wq w6 from fun g t cs h h1 h2=>he6 g t cs (HR.out.2 g t cs h h1 h2) h1 h2);clear hb6 he6 HS1 c0 c1 c2
         go_wp2_with fail
         exact⟨⟨p,by omega,by go_num,zh ⟨HB6.out,HE6.out⟩⟩,by simp[intOf]⟩
        ·obtain rfl:m=0:=by omega
         have HB7:=zh (show Bk2 w wr d1 L d2 L from by
          have h:=HR.out.1;rw[zdz,kept_back HLO.out HOK.out (by omega)]at h;exact h)
         clear HR HB0 HLK;have HM1:=zh (HB7.out.one.meets HM.out nm (by have:=HN3.out;omega));rw[HNM.out]at HM1;obtain⟨E,hE⟩:∃E:Int,(if tName nm=true then 0 else 230)=E:=⟨_,rfl⟩;obtain⟨T,hT⟩:∃T,(if tName nm=true then mtTold L nm else [])=T:=⟨_,rfl⟩;have HTL:=zh (show T.length≤100000 from by
          rw[←hT]
          split
          ·exact told_len (by have:=HLL.out;omega)
          ·simp)
         have HET:=zh (And.intro hE hT)
         go_wp2_with fail
         refine HM1.out.mono ?_;rintro e w8 ⟨hk8,v8,rfl,ho8⟩;rw[HET.out.2]at ho8;rw[HET.out.1];obtain⟨A8,c8,rfl,hl8⟩:=own_at encTd ho8;have HL8:=zh hl8;have HB8:=zh (HB7.out.keeps hk8);have HM2:=zh (HB8.out.two.meets HM.out nm (by have:=HN3.out;omega));rw[HNM.out]at HM2;clear hk8 ho8 hl8 HM1
         go_wp2_with fail
         refine HM2.out.mono ?_;rintro e w9 ⟨hk9,v9,rfl,ho9⟩;rw[HET.out.2]at ho9;rw[HET.out.1];obtain⟨A9',c9,rfl,hl9⟩:=own_at encTd ho9;have HL9:=zh hl9;have HL8' :=zh (HL8.out.keeps hk9);have HB9:=zh (HB8.out.keeps hk9);clear hk9 ho9 hl9 HM2 hE hT
         go_wp2_with fail
         refine(mtSameTold_any _ A8 A9' c8 c9 T T HL8'.out HL9.out (by have:=HTL.out;omega)).mono ?_;rintro e w10 ⟨rfl,hk⟩;rw[decide_eq_true rfl];have HB10:=zh (HB9.out.keeps hk);clear hk
         go_wp2_with fail
         refine(mtSame_any HB10.out.one HB10.out.two).mono ?_;rintro e w11 ⟨rfl,hk⟩;rw[decide_eq_true rfl];have HB11:=zh (HB10.out.keeps hk);clear hk
         go_wp2_with fail
         refine HB11.out.one.nodes.mono ?_;rintro e w12 ⟨rfl,hk⟩;have HB12:=zh (HB11.out.keeps hk);clear hk
         go_wp2_with fail
         refine HB12.out.two.nodes.mono ?_;rintro e w13 ⟨rfl,hk⟩;have HB13:=zh (HB12.out.keeps hk);clear hk;obtain⟨nn,hnn⟩:∃n,mtNodes L=n:=⟨_,rfl⟩;rw[hnn];clear hnn;have HF1:=zh (HFB.out.2 one (by simp));have HS1:=zh (show Calls Tryz.prog 12 #[ptr0 d1,.agg #[.string OF,.string OC,.int .i64 oq]] w13 _ from by
          have h:=HB13.out.set HM.out one (Nat.le_trans HF1.out.1 (by omega)) (Nat.le_trans HF1.out.2 (by omega));unfold sbV at h;rw[HOO.out.1,HOO.out.2.1,HOO.out.2.2]at h;exact h)
         have r0:=(HR0.out.keeps (HB13.out.k)).cell 0;have r1:=(HR0.out.keeps (HB13.out.k)).cell 1;have r2:=(HR0.out.keeps (HB13.out.k)).cell 2;simp only[zga,zgz,zgs]at r0 r1 r2
         cases hv:mtVal one with
         | false=>
          obtain⟨E1,hE0,hE1⟩:=setA_no hv;rw[hE1]at HS1;clear hE1 hv
          go_wp2_with fail
          refine HS1.out.mono ?_;rintro e w14 ⟨rfl,hb,_⟩;have HK:=zh hb.k;clear hb HS1 r0 r1 r2
          go_wp2_with fail
          refine(HKN.out _ HK.out).mono ?_;rintro e w9 ⟨rfl,hk⟩;have HK9:=zh (HK.out.then_ hk);clear hk
          go_wp2_with fail
          go_ret;exact⟨rfl,HK0.out.then_ HK9.out⟩
         | true=>
          have HE:=zh (setA_yes (L:=L) hv (by have:=HLL.out;omega));have HSD:=zh (fun h=>set_drop HLO.out (by have:=HLL.out;omega) (s:=one) hv h);rw[HE.out]at HS1;clear hv
          cases hh:mtHas L one.f one.c with
          | true=>
           simp only[hh]at HS1;clear hh
           go_wp2_with fail
           refine HS1.out.mono ?_;rintro e w14 ⟨rfl,hb,_⟩;have HK:=zh hb.k;clear hb HS1 r0 r1 r2
           go_wp2_with fail
           refine(HKN.out _ HK.out).mono ?_;rintro e w9 ⟨rfl,hk⟩;have HK9:=zh (HK.out.then_ hk);clear hk
           go_wp2_with fail
           go_ret;exact⟨rfl,HK0.out.then_ HK9.out⟩
          | false=>
           simp only[hh]at HS1;have HSX:=zh (HSD.out hh);clear hh
           go_wp2_with fail
           refine HS1.out.mono ?_;rintro e w14 ⟨rfl,hb,_⟩;have HB14:=zh hb;clear hb HS1 r0 r1 r2;have r0:=(HR0.out.keeps (HB14.out.k)).cell 0;have r1:=(HR0.out.keeps (HB14.out.k)).cell 1;have r2:=(HR0.out.keeps (HB14.out.k)).cell 2;simp only[zga,zgz,zgs]at r0 r1 r2;have HD1:=zh (show Calls Tryz.prog 19 #[ptr0 d1,.string OF,.string OC] w14 _ from by
            have h:=HB14.out.drop HM.out one.f one.c (Nat.le_trans HF1.out.1 (by omega)) (Nat.le_trans HF1.out.2 (by omega));rw[HSX.out,HOO.out.1,HOO.out.2.1]at h;exact h)
           go_wp2_with fail
           refine HD1.out.mono ?_;rintro e w15 ⟨rfl,hb,_⟩;have HB15:=zh hb;clear hb HD1 r0 r1 r2
           go_wp2_with fail
           refine(mtSame_any HB15.out.one HB15.out.two).mono ?_;rintro e w16 ⟨rfl,hk⟩;rw[decide_eq_true rfl];have HB16:=zh (HB15.out.keeps hk);clear hk
           go_wp2_with fail
           refine HB16.out.one.nodes.mono ?_;rintro e w17 ⟨rfl,hk⟩;have HB17:=zh (HB16.out.keeps hk);clear hk
           go_wp2_with fail
           refine HB17.out.two.nodes.mono ?_;rintro e w18 ⟨rfl,hk⟩;have HK:=zh (HB17.out.k.then_ hk);obtain⟨nm2,hnn⟩:∃n,mtNodes L=n:=⟨_,rfl⟩;rw[hnn];clear hk hnn
           go_wp2_with fail
           refine(HKN.out _ HK.out).mono ?_;rintro e w9 ⟨rfl,hk⟩;have HK9:=zh (HK.out.then_ hk);clear hk
           go_wp2_with fail
           go_ret;exact⟨rfl,HK0.out.then_ HK9.out⟩
end Go.Proofs.YtoadlafdeoklbaaGreatDoor
