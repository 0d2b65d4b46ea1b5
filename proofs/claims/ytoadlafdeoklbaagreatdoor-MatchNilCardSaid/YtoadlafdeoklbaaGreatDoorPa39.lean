/- Regions by intervals whose values are named and checked by the kernel. Law 14: MatchAlone. Arguments opened: entries, calls. -/
import Derived.Test.YtoadlafdeoklbaaGreatDoorPa36
import Derived.Test.YtoadlafdeoklbaaGreatDoorPa16
import Derived.Test.YtoadlafdeoklbaaGreatDoorPa32
import Derived.Test.YtoadlafdeoklbaaGreatDoorPa37
import Derived.Test.YtoadlafdeoklbaaGreatDoorPa38
import Derived.Test.YtoadlafdeoklbaaGreatDoorPa0
import Derived.ProofKit
import Derived.OpenShut
import Derived.Deep.Slices
import Derived.Deep.Grids
import Derived.Lib.SmallJoins
import Derived.Deep.Fields
import Derived.ChangeSame
import Derived.SizedLaws

namespace Go.Proofs.YtoadlafdeoklbaaGreatDoor
open Go.RowKit

section
variable {P:Program} {Ws:List Iv} {C:World→World→Prop} {A:Nat→World→World→Prop} {w0:World} {ops:Array Oper} {a0:Act} {Q:List Ent→Prop} {o:Oper} {rest:List Oper} {env:List Ent}
theorem vq_is (hL:LightV Ws C A)(k:Nat)(v:Value)(he:env.length=k)
  (hk:wpLooseV P Ws C A w0 ops a0 Q rest (addEnt o.dst (some v) [] (fun _ _ _=>True) env))
  (hw:∀vals:Tmp→Value,Region.wanted o (yielded ops (fill vals env a0).tmps)=true:=by intro _;kernel_rfl) (h:∀(W:World) (vals:Tmp→Value),(execOp (fill vals env a0).eval o).run P W= .ok (.value v) W:=by intro _ _;kernel_rfl):wpLooseV P Ws C A w0 ops a0 Q (o::rest) env:=
 loosev_is k v he (fun W vals _ _=>⟨by rw[if_pos (hw vals),h];exact⟨hL.stp (Keeps.refl _ _),rfl⟩⟩) hk
theorem vq_off (hL:LightV Ws C A)(k:Nat)(he:env.length=k)
  (hk:wpLooseV P Ws C A w0 ops a0 Q rest (addEnt o.dst (some undef) [] (fun _ _ _=>True) env))
  (hw:∀vals:Tmp→Value,Region.wanted o (yielded ops (fill vals env a0).tmps)=false:=by intro _;kernel_rfl):wpLooseV P Ws C A w0 ops a0 Q (o::rest) env:=
 loosev_off k he hL.fit hw hk
theorem vq_load (hL:LightV Ws C A)(k:Nat)(ty:TypeId)(x:Operand)(ad:Addr)(v:Value)(he:env.length=k)(hc:∀W,C w0 W→W.cell? ad=some v)
  (hk:wpLooseV P Ws C A w0 ops a0 Q rest (addEnt o.dst (some v) [] (fun _ _ _=>True) env))
  (ho:o.op= .load ty x:=by rfl) (hw:∀vals:Tmp→Value,Region.wanted o (yielded ops (fill vals env a0).tmps)=true:=by intro _;kernel_rfl) (hx:∀vals,(fill vals env a0).eval x= .pointer (some ad):=by intro _;kernel_rfl) (ht:∀W,(isAgg ty).run P W= .ok false W:=by intro _;kernel_rfl):wpLooseV P Ws C A w0 ops a0 Q (o::rest) env:=
 loosev_is k v he (fun W vals hW _=>⟨by
  have e:(execOp (fill vals env a0).eval o).run P W= .ok (.value v) W:=by
   unfold execOp;simp only[ho,hx,Sem.run_bind,run_load_one ht (hc W hW.c),Result.andThen_ok,Sem.run_pure]
  rw[if_pos (hw vals),e];exact⟨hL.stp (Keeps.refl _ _),rfl⟩⟩) hk
theorem addr_off (b o k:Nat):(⟨b,o,none⟩:Addr).add k=⟨b,o+k,none⟩:=by
 unfold Addr.add
 split
 ·rename_i h
  subst h;rfl
 ·rfl
theorem vq_index (hL:LightV Ws C A)(k:Nat)(ty:TypeId)(x i:Operand)(b ol n c m sz:Nat)(he:env.length=k)(hm:m < n)
  (hk:wpLooseV P Ws C A w0 ops a0 Q rest (addEnt o.dst (some (.pointer (some ⟨b,ol+m*sz,none⟩))) [] (fun _ _ _=>True) env))
  (ho:o.op= .indexAddr ty x i:=by rfl) (hw:∀vals:Tmp→Value,Region.wanted o (yielded ops (fill vals env a0).tmps)=true:=by intro _;kernel_rfl) (hx:∀vals,(fill vals env a0).eval x= .slice (some ⟨b,ol,none⟩) n c:=by intro _;kernel_rfl) (hi:∀vals,(fill vals env a0).eval i= .int .i64 (m:Nat):=by intro _;kernel_rfl)
  (hu:P.underlying ty=some (.slice (P.elem ty)):=by kernel_rfl) (hs:∀W,(sizeOf (P.elem ty)).run P W= .ok sz W:=by intro _;kernel_rfl):wpLooseV P Ws C A w0 ops a0 Q (o::rest) env:=
 loosev_is k _ he (fun W vals _ _=>⟨by
  have h1:=run_indexAt_slice (P:=P) W ty ⟨b,ol,none⟩ n c .i64 (m:Int) hu;rw[if_pos ⟨by omega,by omega⟩,hs,Result.andThen_ok,Int.toNat_natCast,addr_off]at h1;have e:(execOp (fill vals env a0).eval o).run P W= .ok (.value (.pointer (some ⟨b,ol+m*sz,none⟩))) W:=by
   unfold execOp;simp only[ho,hx,hi,Sem.run_bind,h1,Result.andThen_ok,Sem.run_pure]
  rw[if_pos (hw vals),e];exact⟨hL.stp (Keeps.refl _ _),rfl⟩⟩) hk
end
end Go.Proofs.YtoadlafdeoklbaaGreatDoor

namespace Go.Proofs.YtoadlafdeoklbaaGreatDoor
open Go.RowKit Go.Maps Go.Shelf

theorem elemAc:ElemB Tryz.prog 23 27 4 48:=elemB_of (z:= .agg #[.int .i64 0,.string ⟨#[]⟩,.string ⟨#[]⟩,.int .i64 0]) (by kernel_rfl) (by kernel_rfl) (by omega) (by kernel_rfl)
/-- The calls that set a list's entries. -/
def mtActs (l:List Sb):List (Int×Sb):=l.map fun s=>((1:Int),s)
theorem acts_snoc {l:List Sb}{j:Nat}(h:j < l.length):mtActs (l.take (j+1))=mtActs (l.take j)++ [(1,l[j])]:=by
 unfold mtActs;rw[List.take_succ_eq_append_getElem h,List.map_append];rfl
theorem acts_len (l:List Sb)(j:Nat)(h:j≤l.length):(mtActs (l.take j)).length=j:=by
 unfold mtActs;rw[List.length_map,List.length_take];omega
theorem few_acts {l:List Sb}{m:Int}(h:fewB (mtActs l) m=true):(l.length:Int)≤m∧∀s∈l,s.f.length≤300∧s.c.length≤300:=by
 unfold fewB at h;rw[Bool.and_eq_true,decide_eq_true_eq]at h;refine⟨by have:=h.1;unfold mtActs at this;rwa [List.length_map]at this,fun s hs=> ?_⟩;have h2:=List.all_eq_true.1 h.2 (1,s) (List.mem_map.2 ⟨s,hs,rfl⟩);unfold fewS at h2
 simpa using h2
/-- A list of told ones, as an element. -/
def oneC (x:Option Addr×Nat×Nat):List Value:= [.slice x.1 x.2.1 x.2.2]
theorem encOne:Enc 1 oneC:=⟨by omega,fun _=>rfl,fun a u hu=>by obtain rfl:=List.mem_singleton.1 hu;rfl⟩
theorem elemOne:ElemN Tryz.prog 33 37 1:=elemN_of (bytes:=24) (z:= .slice none 0 0) (by kernel_rfl) (by kernel_rfl) (by omega) (by kernel_rfl)
/-- What one entry alone tells lies there. -/
def OneAt (l:List Sb)(nm:List UInt8)(W:World)(x:Option Addr×Nat×Nat):Prop:=∃k,∃h:k < l.length,mtVal l[k]=true∧((l.drop (k+1)).all fun y=> !mtSame l[k] y)=true∧x.2.1=(mtTold [l[k]] nm).length∧ListAt W 42 2 tdC x.1 (mtTold [l[k]] nm)
/-- Where the law stands. -/
structure AlAt (w W:World)(d:Nat)(l:List Sb)(nm:List UInt8)(j:Nat)(v:Value)(ones:List (Option Addr×Nat×Nat)):Prop where
 bk:BkIn w W d (mtAllA [] (l.take j))
 own:OwnN W w.heap.size 37 1 oneC v ones
 le:ones.length≤j
 el:∀x∈ones,OneAt l nm W x
theorem OneAt.keeps {l:List Sb}{nm:List UInt8}{W W' :World}{x:Option Addr×Nat×Nat}(h:OneAt l nm W x)(hk:Keeps W W' []):OneAt l nm W' x:=by
 obtain⟨k,h1,h2,h3,h4,h5⟩:=h;exact⟨k,h1,h2,h3,h4,h5.keeps hk⟩
theorem OneAt.else_ {l:List Sb}{nm:List UInt8}{W W' :World}{x:Option Addr×Nat×Nat}(h:OneAt l nm W x)(hk:Else W W'):OneAt l nm W' x:=by
 obtain⟨k,h1,h2,h3,h4,h5⟩:=h;exact⟨k,h1,h2,h3,h4,hk.list h5 (by decide) (by decide)⟩
theorem AlAt.next {w W w5 w6 w7 w8:World}{d:Nat}{l:List Sb}{nm:List UInt8}{j:Nat}{v:Value}{ones:List (Option Addr×Nat×Nat)}(h:AlAt w W d l nm j v ones)(h5:Keeps W w5 [])(h6:Else w5 w6)(h7:Else w6 w7)(h8:Keeps w7 w8 [])(hb:BkIn w w8 d (mtAllA [] (l.take (j+1)))):AlAt w w8 d l nm (j+1) v ones:=
 ⟨hb,(h7.own (h6.own (h.own.keeps h5) (by decide) (by decide)) (by decide) (by decide)).keeps h8,by have:=h.le;omega,fun x hx=>(((((h.el x hx).keeps h5).else_ h6).else_ h7)).keeps h8⟩
theorem BkIn.row {w W W' :World}{d:Nat}{L:List Sb}{S:List Nat}(h:BkIn w W d L)(hk:Keeps W W' S)(hS:∀g∈S,w.heap.size≤g∧∃t cs,Row W g t cs∧t≠64∧t≠75):BkIn w W' d L:=by
 obtain⟨X,h1,h2⟩:=h;refine⟨X,h1.keep hk (fun x hx hxs=> ?_),h2.trans hk fun y hy hlt=>by have:=(hS y hy).1;omega⟩;obtain⟨_,t,cs,hr,n1,n2⟩:=hS x hxs;exact h1.far hr n1 n2 hx
theorem AlAt.app {w W Wc W7:World}{d:Nat}{l:List Sb}{nm:List UInt8}{j:Nat}{v v7:Value}{ones:List (Option Addr×Nat×Nat)}{x:Option Addr×Nat×Nat}(h:AlAt w W d l nm (j+1) v ones)(hc:Keeps W Wc [])(hk:Keeps Wc W7 v.ownBlock.toList)(ho:OwnN Wc w.heap.size 37 1 oneC v ones)(h7:OwnN W7 w.heap.size 37 1 oneC v7 (ones++ [x]))(hx:OneAt l nm W x)(hle:ones.length≤j):AlAt w W7 d l nm (j+1) v7 (ones++ [x]):=by
 have hone:∀y,OneAt l nm W y→OneAt l nm W7 y:=by
  rintro y ⟨k,h1,h2,h3,h4,h5⟩;exact⟨k,h1,h2,h3,h4,(h5.keeps hc).keep hk fun g hg cs hr=>by
   obtain⟨_,cs',hr'⟩:=ho.rows g hg;exact hr.ne_type hr' (by decide) rfl⟩
 refine⟨(h.bk.keeps hc).row hk fun g hg=> ?_,h7,by simp;omega,fun y hy=> ?_⟩
 ·obtain⟨h1,cs,hr⟩:=ho.rows g hg
  exact⟨h1,_,cs,hr,by decide,by decide⟩
 ·rcases List.mem_append.1 hy with hy | hy
  ·exact hone y (h.el y hy)
  ·rw[List.mem_singleton.1 hy]
   exact hone x hx
theorem all_snoc {α:Type}{p:α→Bool}{l:List α}{i k:Nat}(h1:i≤k)(h2:k < l.length):((l.take (k+1)).drop i).all p=(((l.take k).drop i).all p && p l[k]):=by
 rw[List.take_succ_eq_append_getElem h2,List.drop_append_of_le_length (by rw[List.length_take];omega),List.all_append];simp
theorem any_snoc {α:Type}{p:α→Bool}{l:List α}{k:Nat}(h:k < l.length):(l.take (k+1)).any p=((l.take k).any p || p l[k]):=by
 rw[List.take_succ_eq_append_getElem h,List.any_append];simp
theorem val_ne {s:Sb}(h:mtVal s=true):s.f≠ []:=fun e=>by
 unfold mtVal at h;rw[e]at h
 revert h
 cases mtSubOk s <;> decide
theorem tdIns_len:∀(o:List (List UInt8×Int)) (c:List UInt8) (q:Int),(tdIns o c q).length≤o.length+1
 | [],_,_=>by simp[tdIns]
 | (d,r)::o,c,q=>by
  have ih:=tdIns_len o c q;unfold tdIns
  split
  ·simp only[List.length_cons]
   omega
  ·split
   ·simp
   ·simp only[List.length_cons]
    omega
theorem told_len {L:List Sb}{n:List UInt8}(h:L.length≤100000):(mtTold L n).length≤100000:=by
 have h1:∀(M:List Sb) (o:List (List UInt8×Int)),(M.foldl (fun o x=>tdIns o x.c x.q) o).length≤o.length+M.length:=by
  intro M
  induction M with
  | nil=>intro o;simp
  | cons x M ih=>
   intro o;refine Nat.le_trans (ih _) ?_;have:=tdIns_len o x.c x.q;simp only[List.length_cons];omega
 refine Nat.le_trans (h1 _ _) ?_;have:=List.length_filter_le (fun x:Sb=>tMeets x.f n) L;unfold mtMet;simp only[List.length_nil];omega
theorem name_ne {n:List UInt8}(h:tName n=true):n≠ []:=fun e=>by
 rw[e]at h
 revert h
 decide
set_option maxRecDepth 100000 in
set_option maxHeartbeats 8000000 in
noncomputable def alonePart (w:World)(A:Option Addr)(c:Nat)(l:List Sb)(nm:List UInt8):PSigma fun R1:Prop=>PSigma fun R2:Prop=>R1→R2→
  (MaxL w)→(ListG w 3 sbC A l)→(l.length*40≤140737488351232)→Calls Tryz.prog 3 #[.slice A l.length c,.string ⟨nm.toArray⟩] w (TruePost w true):=by
 apply PSigma.mk;apply PSigma.mk
 case snd.snd=>
  intro h1 h2 hm hl hle;have H1:=zh h1;have H2:=zh h2;clear h1 h2;have HKN:=zh (fun(w' :World) (hk:Keeps w w' [])=>(known14_any w' (hm.keeps hk)));have HM:=zh hm;have HL:=zh hl;have HLE:=zh hle;obtain⟨NM,hNM⟩:∃S:ByteArray,(⟨nm.toArray⟩:ByteArray)=S:=⟨_,rfl⟩;have hz:NM.size=nm.length:=by rw[←hNM];simp[ByteArray.size]
  have HNM:=zh hNM;have HZ:=zh hz;rw[hNM];clear hm hl hz hNM hle
  go_enter Tryz.func3,Tryz.ntmps3
  go_wp2_with fail
  go_loopw [5,6] (fun v i wr=>∃j:Nat,j≤l.length∧i= .int .i64 j∧Hid (OwnN wr w.heap.size 27 4 acC v (mtActs (l.take j))∧Keeps w wr [])) (fun _ i _=>l.length - (intOf i).toNat)
  case atStart=>exact⟨0,by omega,rfl,zh ⟨by simpa [mtActs]using OwnN.nil _ _ _ _ _,Keeps.refl _ _⟩⟩
  case round=>
   obtain⟨j,hj,rfl,HR⟩:=hrel
   by_cases hjl:j < l.length
   ·skip
    have HKr:=zh HR.out.2;obtain⟨b,o,rfl,hb,hc⟩:=(HL.out.keeps HKr.out).at_ hjl;have HT:=zh (acts_snoc hjl);have HAL:=zh (acts_len l j hj);have HOA:=zh HR.out.1;obtain⟨acc,hacc⟩:∃acc,mtActs (l.take j)=acc:=⟨_,rfl⟩;rw[hacc]at HOA HAL HT;have c0:=hc 0 (by omega);have c1:=hc 1 (by omega);have c2:=hc 2 (by omega);obtain⟨⟨xf,xc,xq⟩,hx⟩:∃x,l[j]=x:=⟨_,rfl⟩;rw[hx]at c0 c1 c2 HT;obtain⟨X,hX⟩:∃S:ByteArray,(⟨xf.toArray⟩:ByteArray)=S:=⟨_,rfl⟩;obtain⟨Y,hY⟩:∃S:ByteArray,(⟨xc.toArray⟩:ByteArray)=S:=⟨_,rfl⟩;simp only[sbC,zgz,zgs,Nat.add_zero,hX,hY]at c0 c1 c2;have HXY:=zh (And.intro hX hY);obtain⟨A1,n1,rfl⟩:=OwnN.slice HOA.out;obtain⟨Wc,hWc⟩:∃Wc,wr.alloc (.cells #[.int .i64 1,.string X,.string Y,.int .i64 xq] 27)=Wc:=⟨_,rfl⟩;have kc:Keeps wr Wc []:=by rw[←hWc];exact Keeps.alloc _ _
    have HLa:=zh (show Lies Wc Wc.heap.size (some ⟨wr.heap.size,0,none⟩) (acC (1,⟨xf,xc,xq⟩))from lies_of_row (cs:= #[.int .i64 1,.string X,.string Y,.int .i64 xq]) (by rw[←hWc];exact Row.new _ _ _) (by rw[←HXY.out.1,←HXY.out.2];rfl));have HA:=zh (HOA.out.keeps kc);have HKC:=zh (HKr.out.then_ kc);have hbs:w.heap.size≤Wc.heap.size:=HKC.out.size;have hle:=HLE.out;clear kc hx hX hY hc hb HR
    go_upto_region 5 with fail
    go_wp2_with (at_builtin;refine wpList_append_one elemAc encAc rfl (.tmp 34) (.tmp 40) rfl w.heap.size (.slice A1 acc.length n1) (some ⟨wr.heap.size,0,none⟩) 1 acc (1,⟨xf,xc,xq⟩) rfl rfl HA.out HLa.out (by have:=HAL.out;omega) (by have:=HAL.out;omega) hbs ?_;intro A7 c7 w7 l7 hl7 ho7 hk7 hb7;refine Hid.out ?_)
    refine zh ?_;have HL7:=zh (show l7=mtActs (l.take (j+1))from by rw[hl7.out,HT.out]);have HO7:=zh ho7;have HK7:=zh (show Keeps w w7 []from HKC.out.trans hk7 (fun y hy hlt=>by have:=(HA.out.rows y hy).1;omega));clear ho7 hk7 hb7 hl7 hWc hbs c0 c1 c2
    go_wp2_with fail
    exact⟨⟨j+1,by omega,by go_num,zh ⟨by rw[←HL7.out];exact HO7.out,HK7.out⟩⟩,by simp[intOf];omega⟩
   ·obtain rfl:j=l.length:=by omega
    have HK:=zh HR.out.2;have HO:=zh HR.out.1;rw[List.take_length]at HO;obtain⟨A1,n1,rfl⟩:=OwnN.slice HO.out;have hAL:(mtActs l).length=l.length:=by simp[mtActs]
    have HFW:=zh (few14_any wr A1 n1 (mtActs l) 20 (HO.out.at_ encAc).g (by have:=HLE.out;omega));clear hAL HR HO hj hjl
    cases hfb:fewB (mtActs l) 20 with
    | false=>
     rw[hfb]at HFW;clear hfb
     go_wp2_with fail
     refine HFW.out.mono ?_;rintro e w2 ⟨rfl,rfl⟩;clear HFW
     go_wp2_with fail
     refine(HKN.out _ HK.out).mono ?_;rintro e w9 ⟨rfl,hk⟩;have HK9:=zh (HK.out.then_ hk);clear hk
     go_wp2_with fail
     go_ret;exact⟨rfl,HK9.out⟩
    | true=>
     rw[hfb]at HFW;have HFB:=zh (few_acts hfb);clear hfb
     by_cases h3:(NM.size:Int) > 300
     ·go_wp2_with fail
      refine HFW.out.mono ?_;rintro e w2 ⟨rfl,rfl⟩;clear HFW
      go_wp2_with fail
      refine(HKN.out _ HK.out).mono ?_;rintro e w9 ⟨rfl,hk⟩;have HK9:=zh (HK.out.then_ hk);clear hk
      go_wp2_with fail
      go_ret;exact⟨rfl,HK9.out⟩
     ·have HN3:=zh (show nm.length≤300 from by have:=HZ.out;omega)
      have HNA:=zh (rName_any wr nm (by have:=HN3.out;omega));rw[HNM.out]at HNA
      cases htn:tName nm with
      | false=>
       rw[htn]at HNA;clear htn
       go_wp2_with fail
       refine HFW.out.mono ?_;rintro e w2 ⟨rfl,rfl⟩;clear HFW
       go_wp2_with fail
       refine HNA.out.mono ?_;rintro e w3 ⟨rfl,hk⟩;replace HK:=zh (HK.out.then_ hk);clear hk HNA
       go_wp2_with fail
       refine(HKN.out _ HK.out).mono ?_;rintro e w9 ⟨rfl,hk⟩;have HK9:=zh (HK.out.then_ hk);clear hk
       go_wp2_with fail
       go_ret;exact⟨rfl,HK9.out⟩
      | true=>
       rw[htn]at HNA;have HTN:=zh htn;clear htn
       go_wp2_with fail
       refine HFW.out.mono ?_;rintro e w2 ⟨rfl,rfl⟩;clear HFW
       go_wp2_with fail
       refine HNA.out.mono ?_;rintro e w3 ⟨rfl,hk⟩;replace HK:=zh (HK.out.then_ hk);clear hk HNA
       go_wp2_with fail
       clear h3;refine(mtNew_in w w3 HK.out).mono ?_;rintro e w4 ⟨d,rfl,hb,_⟩;have HB4:=zh hb;clear hb HK
       go_wp2_with fail
       go_loopw [8,9] (fun v i wr=>∃j:Nat,j≤l.length∧i= .int .i64 j∧Hid (∃ones,AlAt w wr d l nm j v ones)) (fun _ i _=>l.length - (intOf i).toNat)
       case atStart=>exact⟨0,by omega,rfl,zh ⟨[],HB4.out,OwnN.nil _ _ _ _ _,by simp,fun x hx=>by cases hx⟩⟩
       case round=>
        obtain⟨j,hj,rfl,HJ⟩:=hrel
        by_cases hjl:j < l.length
        ·rename_i kA kB kC kD kE kF kG kH
         revert HKN HM HL HLE NM HNM HZ kA u28 u29 u30 u31 u32 u33 u34 u35 u36 u37 u38 u39 u40 u41 A1 n1 HFB HN3 HTN kB kC kD w2 w3 kE w4 d kF HB4 kG kH wr u4 u8 u10 u11 u12 u13 u14 u15 u16 u17 u18 u19 u20 u21 u22 u57 u58 u59 u60 u61 u62 u63 u64 u65 u66 u67 u68 u69 u70 u71 u72 u73 u74 u75 u76 u77 u78 u79 u80 u81 u82 u83 u84 u85 u86 u87 u88 u89 u90 u91 u92 u93 u94 u95 u96 u97 u98 u99 u100 u101 u102 u103 u104 u105 u106 u107 u108 u109 u110 u111 u112 u113 u114 u115 u116 u117 u118 u119 u120 u121 u122 u123 u124 u125 u126 u127 u128 u129 u130 u131 u132 u133 u134 u135 u136 u137 u138 u139 u140 u141 u142 u143 u144 u145 u146 u147 u148 u149 u150 u151 u152 u153 u154 u155 u156 u157 u158 u159 u160 u161 u162 u163 u164 u165 u166 u167 u168 u169 u170 u171 u172 u173 u174 u175 u176 u177 u178 u179 u180 u181 u182 u183 u184 u185 u186 u187 u188 u189 u190 u191 u192 u193 j hj HJ hjl
         exact H1.out
        ·rename_i kA kB kC kD kE kF kG kH
         revert HKN HM HL HLE NM HNM HZ kA u28 u29 u30 u31 u32 u33 u34 u35 u36 u37 u38 u39 u40 u41 A1 n1 HFB HN3 HTN kB kC kD w2 w3 kE w4 d kF HB4 kG kH wr u4 u8 u10 u11 u12 u13 u14 u15 u16 u17 u18 u19 u20 u21 u22 u57 u58 u59 u60 u61 u62 u63 u64 u65 u66 u67 u68 u69 u70 u71 u72 u73 u74 u75 u76 u77 u78 u79 u80 u81 u82 u83 u84 u85 u86 u87 u88 u89 u90 u91 u92 u93 u94 u95 u96 u97 u98 u99 u100 u101 u102 u103 u104 u105 u106 u107 u108 u109 u110 u111 u112 u113 u114 u115 u116 u117 u118 u119 u120 u121 u122 u123 u124 u125 u126 u127 u128 u129 u130 u131 u132 u133 u134 u135 u136 u137 u138 u139 u140 u141 u142 u143 u144 u145 u146 u147 u148 u149 u150 u151 u152 u153 u154 u155 u156 u157 u158 u159 u160 u161 u162 u163 u164 u165 u166 u167 u168 u169 u170 u171 u172 u173 u174 u175 u176 u177 u178 u179 u180 u181 u182 u183 u184 u185 u186 u187 u188 u189 u190 u191 u192 u193 j hj HJ hjl
         exact H2.out
set_option maxRecDepth 100000 in
set_option maxHeartbeats 8000000 in
theorem alone_lt (w:World)(A:Option Addr)(c:Nat)(l:List Sb)(nm:List UInt8):(alonePart w A c l nm).1:=by
 unfold alonePart;intro HKN HM HL HLE NM HNM HZ kA u28 u29 u30 u31 u32 u33 u34 u35 u36 u37 u38 u39 u40 u41 A1 n1 HFB HN3 HTN kB kC kD w2 w3 kE w4 d kF HB4 kG kH wr u4 u8 u10 u11 u12 u13 u14 u15 u16 u17 u18 u19 u20 u21 u22 u57 u58 u59 u60 u61 u62 u63 u64 u65 u66 u67 u68 u69 u70 u71 u72 u73 u74 u75 u76 u77 u78 u79 u80 u81 u82 u83 u84 u85 u86 u87 u88 u89 u90 u91 u92 u93 u94 u95 u96 u97 u98 u99 u100 u101 u102 u103 u104 u105 u106 u107 u108 u109 u110 u111 u112 u113 u114 u115 u116 u117 u118 u119 u120 u121 u122 u123 u124 u125 u126 u127 u128 u129 u130 u131 u132 u133 u134 u135 u136 u137 u138 u139 u140 u141 u142 u143 u144 u145 u146 u147 u148 u149 u150 u151 u152 u153 u154 u155 u156 u157 u158 u159 u160 u161 u162 u163 u164 u165 u166 u167 u168 u169 u170 u171 u172 u173 u174 u175 u176 u177 u178 u179 u180 u181 u182 u183 u184 u185 u186 u187 u188 u189 u190 u191 u192 u193 j hj HJ hjl
 skip
 obtain⟨ones,HA⟩:∃ones,Hid (AlAt w wr d l nm j u8 ones):=by
  obtain⟨o,h⟩:=HJ.out;exact⟨o,zh h⟩
 obtain⟨b,o,rfl,_,_⟩:=HL.out.at_ hjl;obtain⟨⟨xf,xc,xq⟩,hx⟩:∃x,l[j]=x:=⟨_,rfl⟩;have HCW:=zh (show∀W,Keeps w W []→∀i,i < 3→W.cell? ⟨b,o+j*3+i,none⟩=(sbC ⟨xf,xc,xq⟩)[i]? from fun W hk i hi=>by
  rw[←hx];obtain⟨b',o',e,_,hc'⟩:=(HL.out.keeps hk).at_ hjl;injection e with e
  injection e with e1 e2
  subst e1 e2;exact hc' i hi)
 have HSN:=zh (allA_snoc hjl);have HF:=zh (HFB.out.2 _ (List.getElem_mem hjl));have HOK:=zh (show MtOk (mtAllA [] (l.take j))∧(mtAllA [] (l.take j)).length < 4096 from by
  have h:=allA_ok MtOk.nil (l.take j);have h2:=h.2;rw[List.length_take]at h2;have:=HFB.out.1;exact⟨h.1,by simp only[List.length_nil]at h2;omega⟩)
 obtain⟨L,hL⟩:∃L,mtAllA [] (l.take j)=L:=⟨_,rfl⟩;have HBK:=zh (show BkIn w wr d L from by rw[←hL];exact HA.out.bk);rw[hL]at HSN HOK;have HJL:=zh hjl;have HX:=zh hx;have HLO:=zh HA.out.le;rw[hx]at HF HSN;obtain⟨X,hX⟩:∃S:ByteArray,(⟨xf.toArray⟩:ByteArray)=S:=⟨_,rfl⟩;obtain⟨Y,hY⟩:∃S:ByteArray,(⟨xc.toArray⟩:ByteArray)=S:=⟨_,rfl⟩;have HXY:=zh (And.intro hX hY);clear hx hX hY hL HJ;have hle:=HFB.out.1
 go_wp2_with fail
 refine(mtNew2_in HBK.out).mono ?_;rintro e w5 ⟨d1,rfl,hb2,hk5⟩;have HK5:=zh hk5;have HB5:=zh hb2;have c0:=HCW.out w5 (HB5.out.k) 0 (by omega);have c1:=HCW.out w5 (HB5.out.k) 1 (by omega);have c2:=HCW.out w5 (HB5.out.k) 2 (by omega);simp only[sbC,zgz,zgs,Nat.add_zero,HXY.out.1,HXY.out.2]at c0 c1 c2;have HS1:=zh (show Calls Tryz.prog 12 #[ptr0 d1,.agg #[.string X,.string Y,.int .i64 xq]] w5 _ from by
  have h:=HB5.out.swap.set HM.out ⟨xf,xc,xq⟩ (by have:=HF.out.1;show xf.length≤_;omega) (by have:=HF.out.2;show xc.length≤_;omega);unfold sbV at h;rw[HXY.out.1,HXY.out.2]at h;exact h)
 clear hb2 hk5
 cases hv:mtVal ⟨xf,xc,xq⟩with
 | false=>
  have HV:=zh hv;obtain⟨E,hE0,hE⟩:=setA_no hv;have HEE:=zh hE;rw[hE]at HS1;clear hv hE
  go_wp2_with fail
  refine HS1.out.mono ?_;rintro e w6 ⟨rfl,hb6,he6⟩;have HE6:=zh he6;have HB6:=zh hb6;clear hb6 he6 HS1 c0 c1 c2;have c0:=HCW.out w6 (HB6.out.k) 0 (by omega);have c1:=HCW.out w6 (HB6.out.k) 1 (by omega);have c2:=HCW.out w6 (HB6.out.k) 2 (by omega);simp only[sbC,zgz,zgs,Nat.add_zero,HXY.out.1,HXY.out.2]at c0 c1 c2;have HS2:=zh (show Calls Tryz.prog 12 #[ptr0 d,.agg #[.string X,.string Y,.int .i64 xq]] w6 _ from by
   have h:=HB6.out.swap.set HM.out ⟨xf,xc,xq⟩ (by have:=HF.out.1;show xf.length≤_;omega) (by have:=HF.out.2;show xc.length≤_;omega);unfold sbV at h;rw[HXY.out.1,HXY.out.2]at h;exact h)
  rw[HEE.out]at HS2
  go_wp2_with fail
  refine HS2.out.mono ?_;rintro e w7 ⟨rfl,hb7,he7⟩;have HE7:=zh he7;have HB7:=zh hb7;clear hb7 he7 HS2 c0 c1 c2;have HME:=zh (HB7.out.two.meets HM.out nm (by have:=HN3.out;omega));rw[HNM.out]at HME
  go_wp2_with fail
  refine HME.out.mono ?_;rintro e w8 ⟨hk8,v8,rfl,ho8⟩;rw[HTN.out,if_pos rfl]at ho8;rw[HTN.out,if_pos rfl];have HK8:=zh hk8;obtain⟨A8,c8,rfl,hl8⟩:=own_at encTd ho8;have HL8:=zh hl8;clear hk8 ho8 hl8 HME;rw[told_none]at HL8
  go_wp2_with fail
  exact⟨⟨j+1,by omega,by go_num,zh ⟨ones,HA.out.next HK5.out HE6.out HE7.out HK8.out (by rw[HSN.out,HEE.out];exact HB7.out.one.keeps HK8.out)⟩⟩,by simp[intOf];omega⟩
 | true=>
  have HV:=zh hv;have HE1:=zh (show mtSetA [] ⟨xf,xc,xq⟩=([⟨xf,xc,xq⟩],true,0)from setA_yes hv (by simp));have HE2:=zh (setA_yes (L:=L) hv HOK.out.2);rw[HE1.out]at HS1;obtain⟨z2,hz2⟩:∃z,(!mtHas L xf xc)=z:=⟨_,rfl⟩;clear hv
  go_wp2_with fail
  refine HS1.out.mono ?_;rintro e w6 ⟨rfl,hb6,he6⟩;have HE6:=zh he6;have HB6:=zh hb6;clear hb6 he6 HS1 c0 c1 c2;have c0:=HCW.out w6 (HB6.out.k) 0 (by omega);have c1:=HCW.out w6 (HB6.out.k) 1 (by omega);have c2:=HCW.out w6 (HB6.out.k) 2 (by omega);simp only[sbC,zgz,zgs,Nat.add_zero,HXY.out.1,HXY.out.2]at c0 c1 c2;have HS2:=zh (show Calls Tryz.prog 12 #[ptr0 d,.agg #[.string X,.string Y,.int .i64 xq]] w6 _ from by
   have h:=HB6.out.swap.set HM.out ⟨xf,xc,xq⟩ (by have:=HF.out.1;show xf.length≤_;omega) (by have:=HF.out.2;show xc.length≤_;omega);unfold sbV at h;rw[HXY.out.1,HXY.out.2]at h;exact h)
  rw[HE2.out,hz2]at HS2;clear hz2
  go_wp2_with fail
  refine HS2.out.mono ?_;rintro e w7 ⟨rfl,hb7,he7⟩;have HE7:=zh he7;have HB7:=zh hb7;clear hb7 he7 HS2 c0 c1 c2;have HME:=zh (HB7.out.two.meets HM.out nm (by have:=HN3.out;omega));rw[HNM.out]at HME
  go_wp2_with fail
  refine HME.out.mono ?_;rintro e w8 ⟨hk8,v8,rfl,ho8⟩;rw[HTN.out,if_pos rfl]at ho8;rw[HTN.out,if_pos rfl];have HK8:=zh hk8;obtain⟨A8,c8,rfl,hl8⟩:=own_at encTd ho8;have HL8:=zh hl8;clear hk8 ho8 hl8 HME;have HB8:=zh (HB7.out.keeps HK8.out);have HAN:=zh (HA.out.next HK5.out HE6.out HE7.out HK8.out (by rw[HSN.out,HE2.out];exact HB8.out.one));have HR8:=zh (rMeets_any w8 xf nm (by have:=HF.out.1;show xf.length≤_;omega) (by have:=HN3.out;omega) (val_ne HV.out) (name_ne HTN.out));rw[HXY.out.1,HNM.out]at HR8;have c0:=HCW.out w8 (HB8.out.k) 0 (by omega);have c1:=HCW.out w8 (HB8.out.k) 1 (by omega);have c2:=HCW.out w8 (HB8.out.k) 2 (by omega);simp only[sbC,zgz,zgs,Nat.add_zero,HXY.out.1,HXY.out.2]at c0 c1 c2;obtain⟨T8,hT8⟩:∃T,mtTold [⟨xf,xc,xq⟩] nm=T:=⟨_,rfl⟩;have HT8:=zh hT8;rw[hT8]at HL8;simp only[hT8];clear hT8;have HKW8:=zh HB8.out.k;clear HB5 HB6 HB7 HK5 HK8 HE6 HE7 HE1 HE2 HOK HBK HA
  go_upto_if 96 with fail
  refine wp_cond_false rfl ?_;refine wp_skip ?_;rename_i K2 h2;refine h2 _ _ ?_;clear h2;refine wp_seq_k fun K hK=> ?_
  go_cut [] (fun wx=>Hid (Keeps w8 wx []))
  case first=>
   have HKK:=zh hK;clear hK
   go_wp2_with fail
   refine HR8.out.mono ?_;rintro e w9 ⟨rfl,hk9⟩;have HK9:=zh hk9;have M1:=fun(W' :World) (hW:Keeps w9 W' [])=>HCW.out W' (HKW8.out.then_ (HK9.out.then_ hW)) 1 (by omega)
   have M2:=fun(W' :World) (hW:Keeps w9 W' [])=>HCW.out W' (HKW8.out.then_ (HK9.out.then_ hW)) 2 (by omega)
   simp only[sbC,zgz,zgs,HXY.out.2]at M1 M2;clear hk9 HR8 c0 c1 c2;obtain⟨B,hB⟩:∃B,tMeets xf nm=B:=⟨_,rfl⟩;have HTT:=zh HT8.out.symm;rw[told_one]at HTT;simp only[hB]at HTT ⊢
   clear hB
   cases B with
   | false=>
    obtain rfl:T8= []:=HTT.out
    go_upto_region 23 with fail
    have LV:LightV ([]:List Iv) KeepsAll (fun _=>KeepsAll):= .all keepsAll_ok keepsAll_ok;refine wp_region_ivs [] KeepsAll (fun _=>KeepsAll) _ 30 LV (by kernel_rfl) rfl (by kernel_rfl) ?_;simp only[zts,ztz,zds,zdz];refine vq_is LV 0 (.slice A8 0 c8) rfl ?_;simp only[addEnt];refine vq_is LV 1 (.int .i64 0) rfl ?_;simp only[addEnt];refine vq_is LV 2 (.bool false) rfl ?_;simp only[addEnt];refine vq_is LV 3 (.bool false) rfl ?_;simp only[addEnt];refine vq_is LV 4 (.bool false) rfl ?_;simp only[addEnt];refine vq_is LV 5 (.bool false) rfl ?_;simp only[addEnt];refine vq_is LV 6 (.slice A8 0 c8) rfl ?_;simp only[addEnt];refine vq_is LV 7 (.int .i64 0) rfl ?_;simp only[addEnt];refine vq_is LV 8 (.bool false) rfl ?_;simp only[addEnt];refine vq_is LV 9 (.bool false) rfl ?_;simp only[addEnt];refine vq_is LV 10 (.bool false) rfl ?_;simp only[addEnt];refine vq_is LV 11 (.bool false) rfl ?_;simp only[addEnt];refine vq_is LV 12 (.bool false) rfl ?_;simp only[addEnt];refine vq_off LV 13 rfl ?_;simp only[addEnt];refine vq_off LV 14 rfl ?_;simp only[addEnt];refine vq_off LV 15 rfl ?_;simp only[addEnt];refine vq_off LV 16 rfl ?_;simp only[addEnt];refine vq_off LV 17 rfl ?_;simp only[addEnt];refine vq_off LV 18 rfl ?_;simp only[addEnt];refine vq_off LV 19 rfl ?_;simp only[addEnt];refine vq_off LV 20 rfl ?_;simp only[addEnt];refine vq_off LV 21 rfl ?_;simp only[addEnt];refine vq_off LV 22 rfl ?_;simp only[addEnt];refine vq_off LV 23 rfl ?_;simp only[addEnt];refine vq_off LV 24 rfl ?_;simp only[addEnt];refine vq_off LV 25 rfl ?_;simp only[addEnt];refine vq_off LV 26 rfl ?_;simp only[addEnt];refine vq_off LV 27 rfl ?_;simp only[addEnt];refine vq_is LV 28 (.bool false) rfl ?_;simp only[addEnt];refine vq_is LV 29 (.bool false) rfl ?_;simp only[addEnt];refine loosev_nil (fun W9 vals hW hkn=> ?_);simp only[knowsAllV]at hkn
    try simp only[and_true]at hkn
    simp only[fill,Act.put,zsa,zsc,zsz];have HK10:=zh (show Keeps w8 W9 []from HK9.out.then_ hW);clear hkn LV hW HK9 M1 M2
    go_wp2_with fail
    go_meet
    exact HK10
   | true=>
    obtain rfl:T8= [(xc,xq)]:=HTT.out;obtain⟨b8,o8,rfl,_,hc8⟩:=(HL8.out.keeps HK9.out).at_ (i:=0) (by simp);have HC8:=zh (show∀W',Keeps w9 W' []→∀i,i < 2→W'.cell? ⟨b8,o8+i,none⟩=(tdC (xc,xq))[i]? from fun W' hW i hi=>by
     obtain⟨b',o',e,_,hc'⟩:=(HL8.out.keeps (HK9.out.then_ hW)).at_ (i:=0) (by simp);injection e with e
     injection e with e1 e2
     subst e1 e2;have h:=hc' i hi;rw[Nat.zero_mul,Nat.add_zero]at h;exact h)
    have M80:=fun(W' :World) (hW:Keeps w9 W' [])=>HC8.out W' hW 0 (by omega)
    have M81:=fun(W' :World) (hW:Keeps w9 W' [])=>HC8.out W' hW 1 (by omega)
    simp only[tdC,zgz,zgs,Nat.add_zero,HXY.out.2]at M80 M81;clear hc8
    go_upto_region 23 with fail
    have LV:LightV ([]:List Iv) KeepsAll (fun _=>KeepsAll):= .all keepsAll_ok keepsAll_ok;refine wp_region_ivs [] KeepsAll (fun _=>KeepsAll) _ 30 LV (by kernel_rfl) rfl (by kernel_rfl) ?_;simp only[zts,ztz,zds,zdz];refine vq_is LV 0 (.slice (some ⟨b8,o8,none⟩) 1 c8) rfl ?_;simp only[addEnt];refine vq_is LV 1 (.int .i64 1) rfl ?_;simp only[addEnt];refine vq_is LV 2 (.bool true) rfl ?_;simp only[addEnt];refine vq_is LV 3 (.bool true) rfl ?_;simp only[addEnt];refine vq_is LV 4 (.bool false) rfl ?_;simp only[addEnt];refine vq_is LV 5 (.bool false) rfl ?_;simp only[addEnt];refine vq_is LV 6 (.slice (some ⟨b8,o8,none⟩) 1 c8) rfl ?_;simp only[addEnt];refine vq_is LV 7 (.int .i64 1) rfl ?_;simp only[addEnt];refine vq_is LV 8 (.bool false) rfl ?_;simp only[addEnt];refine vq_is LV 9 (.bool false) rfl ?_;simp only[addEnt];refine vq_is LV 10 (.bool false) rfl ?_;simp only[addEnt];refine vq_is LV 11 (.bool true) rfl ?_;simp only[addEnt];refine vq_is LV 12 (.bool true) rfl ?_;simp only[addEnt];refine vq_is LV 13 (.slice (some ⟨b8,o8,none⟩) 1 c8) rfl ?_;simp only[addEnt];refine vq_is LV 14 (.pointer (some ⟨b8,o8,none⟩)) rfl ?_;simp only[addEnt];apply loosev_is 15 _ rfl
    ·intro W vals hW hkn
     have hC:=hW.c;simp only[knowsV]at hkn
     try simp only[and_true]at hkn
     clear hkn;have m:=M80 W hC;have m1:=M81 W hC;refine⟨?_⟩;simp only[fill];go_simp
     first | exact⟨LV.stp (Keeps.refl _ _),rfl⟩ | exact⟨LV.stp (Keeps.alloc _ _),rfl⟩
    simp only[addEnt];refine vq_is LV 16 (.slice (some ⟨b,o,none⟩) l.length c) rfl ?_;simp only[addEnt];refine vq_is LV 17 (.int .i64 (j:Nat)) rfl ?_;simp only[addEnt];refine vq_index LV 18 22 (.tmp 123) (.tmp 124) b o (l.length) (c) (j) 3 rfl (hjl) ?_;simp only[addEnt];refine vq_is LV 19 (.pointer (some ⟨b,o+j*3+1,none⟩)) rfl ?_;simp only[addEnt];refine vq_load LV 20 9 (.tmp 126) ⟨b,o+j*3+1,none⟩ (.string Y) rfl (fun W hW=>M1 W hW) ?_;simp only[addEnt];refine vq_is LV 21 (.slice (some ⟨b,o,none⟩) l.length c) rfl ?_;simp only[addEnt];refine vq_is LV 22 (.int .i64 (j:Nat)) rfl ?_;simp only[addEnt];refine vq_index LV 23 22 (.tmp 128) (.tmp 129) b o (l.length) (c) (j) 3 rfl (hjl) ?_;simp only[addEnt];refine vq_is LV 24 (.pointer (some ⟨b,o+j*3+2,none⟩)) rfl ?_;simp only[addEnt];refine vq_load LV 25 3 (.tmp 131) ⟨b,o+j*3+2,none⟩ (.int .i64 xq) rfl (fun W hW=>M2 W hW) ?_;simp only[addEnt];refine vq_is LV 26 (.agg #[.string Y,.int .i64 xq]) rfl ?_;simp only[addEnt];apply loosev_is 27 _ rfl
    ·intro W vals hW hkn
     clear hkn;have hC:=hW.c;refine⟨?_⟩;simp only[fill];go_simp
     first | exact⟨LV.stp (Keeps.refl _ _),rfl⟩ | exact⟨LV.stp (Keeps.alloc _ _),rfl⟩
    simp only[addEnt];refine vq_is LV 28 (.bool false) rfl ?_;simp only[addEnt];refine vq_is LV 29 (.bool false) rfl ?_;simp only[addEnt];refine loosev_nil (fun W9 vals hW hkn=> ?_);simp only[knowsAllV]at hkn
    try simp only[and_true]at hkn
    simp only[fill,Act.put,zsa,zsc,zsz];have HK10:=zh (show Keeps w8 W9 []from HK9.out.then_ hW);clear hkn LV hW HK9 M1 M2 M80 M81
    go_wp2_with fail
    go_meet
    exact HK10
  case rest=>
   refine hK _ _ ?_;clear hK c0 c1 c2 HR8;obtain⟨w10,hw10⟩:∃w,w=wc:=⟨_,rfl⟩;have HK10:=zh hcut.out;rw[←hw10]at HK10 ⊢
   clear hcut hw10;have HKW:=zh (HKW8.out.then_ HK10.out);have HAX:=zh (show AlAt w w10 d l nm (j+1) u8 ones from⟨HAN.out.bk.keeps HK10.out,HAN.out.own.keeps HK10.out,HAN.out.le,fun x hx=>(HAN.out.el x hx).keeps HK10.out⟩);have HLX:=zh (HL8.out.keeps HK10.out);clear HAN HL8 HKW8 HK10;have hjl:=HJL.out
   go_wp2_with fail
   go_loopw [18,19] (fun v i wr=>∃k:Nat,j+1≤k∧k≤l.length∧i= .int .i64 k∧v= .bool (((l.take k).drop (j+1)).all fun y=> !mtSame ⟨xf,xc,xq⟩ y)∧Hid (Keeps w10 wr [])) (fun _ i _=>l.length - (intOf i).toNat)
   case atStart=>
    refine⟨j+1,by omega,by omega,by go_num, ?_,zh (Keeps.refl _ _)⟩;rw[List.drop_eq_nil_of_le (by rw[List.length_take];omega)];rfl
   case round=>
    obtain⟨k,hk1,hk2,rfl,rfl,HR⟩:=hrel
    by_cases hkl:k < l.length
    ·have HKR:=zh HR.out
     have HKW2:=zh (HKW.out.then_ HR.out);obtain⟨⟨yf,yc,yq⟩,hy⟩:∃x,l[k]=x:=⟨_,rfl⟩;have HCK:=zh (show∀W,Keeps w W []→∀i,i < 3→W.cell? ⟨b,o+k*3+i,none⟩=(sbC ⟨yf,yc,yq⟩)[i]? from fun W hk i hi=>by
      rw[←hy];obtain⟨b',o',e,_,hc'⟩:=(HL.out.keeps hk).at_ hkl;injection e with e
      injection e with e1 e2
      subst e1 e2;exact hc' i hi)
     have HFY:=zh (HFB.out.2 _ (List.getElem_mem hkl));have HAL:=zh (all_snoc (p:=fun y=> !mtSame ⟨xf,xc,xq⟩ y) hk1 hkl);rw[hy]at HFY HAL;obtain⟨X2,hX2⟩:∃S:ByteArray,(⟨yf.toArray⟩:ByteArray)=S:=⟨_,rfl⟩;obtain⟨Y2,hY2⟩:∃S:ByteArray,(⟨yc.toArray⟩:ByteArray)=S:=⟨_,rfl⟩;have HXY2:=zh (And.intro hX2 hY2);have d0:=HCK.out wr HKW2.out 0 (by omega);have d1:=HCK.out wr HKW2.out 1 (by omega);have d2:=HCK.out wr HKW2.out 2 (by omega);simp only[sbC,zgz,zgs,Nat.add_zero,HXY2.out.1,HXY2.out.2]at d0 d1 d2;have HRS:=zh (show Calls Tryz.prog 15 #[.slice none 0 0,.agg #[.string X2,.string Y2,.int .i64 yq]] wr _ from by
      have h:=rfSet_any wr (.slice none 0 0) [] ⟨yf,yc,yq⟩ ⟨none,0,rfl,ListAt.nil _ _ _ _ _,by simp⟩ List.Pairwise.nil (by simp) (Nat.le_trans HFY.out.1 (by omega)) (Nat.le_trans HFY.out.2 (by omega));unfold sbV at h;rw[HXY2.out.1,HXY2.out.2]at h;exact h)
     have HSM:=zh (show mtSame ⟨xf,xc,xq⟩ ⟨yf,yc,yq⟩=(mtVal ⟨yf,yc,yq⟩ && ((X2.toList==X.toList) && (Y2.toList==Y.toList)))from by
      unfold mtSame;rw[←HXY2.out.1,←HXY2.out.2,←HXY.out.1,←HXY.out.2,Lib.toList_data,Lib.toList_data,Lib.toList_data,Lib.toList_data])
     obtain⟨bl,hbl⟩:∃z,(((l.take k).drop (j+1)).all fun y=> !mtSame ⟨xf,xc,xq⟩ y)=z:=⟨_,rfl⟩;rw[hbl]at HAL;simp only[hbl];clear hy hX2 hY2 hbl HR
     cases bl with
     | false=>
      go_wp2_with fail
      refine HRS.out.mono ?_;rintro e w11 ⟨hk11,v11,rfl,_⟩;have HK11:=zh (HKR.out.then_ hk11);unfold ansV;obtain⟨b1,hb1⟩:∃z,(mtSetA [] ⟨yf,yc,yq⟩).2.1=z:=⟨_,rfl⟩;obtain⟨e1,he1⟩:∃z,(mtSetA [] ⟨yf,yc,yq⟩).2.2=z:=⟨_,rfl⟩;rw[hb1,he1];clear hk11 hb1 he1 d0 d1 d2
      go_upto_region 30 with fail
      have LV:LightV ([]:List Iv) KeepsAll (fun _=>KeepsAll):= .all keepsAll_ok keepsAll_ok;refine wp_region_ivs [] KeepsAll (fun _=>KeepsAll) _ 35 LV (by kernel_rfl) rfl (by kernel_rfl) ?_;simp only[zts,ztz,zds,zdz];refine vq_is LV 0 (.bool false) rfl ?_;simp only[addEnt];refine vq_is LV 1 (.bool false) rfl ?_;simp only[addEnt];refine vq_off LV 2 rfl ?_;simp only[addEnt];refine vq_off LV 3 rfl ?_;simp only[addEnt];refine vq_off LV 4 rfl ?_;simp only[addEnt];refine vq_off LV 5 rfl ?_;simp only[addEnt];refine vq_off LV 6 rfl ?_;simp only[addEnt];refine vq_off LV 7 rfl ?_;simp only[addEnt];refine vq_off LV 8 rfl ?_;simp only[addEnt];refine vq_off LV 9 rfl ?_;simp only[addEnt];refine vq_off LV 10 rfl ?_;simp only[addEnt];refine vq_off LV 11 rfl ?_;simp only[addEnt];refine vq_off LV 12 rfl ?_;simp only[addEnt];refine vq_off LV 13 rfl ?_;simp only[addEnt];refine vq_off LV 14 rfl ?_;simp only[addEnt];refine vq_off LV 15 rfl ?_;simp only[addEnt];refine vq_off LV 16 rfl ?_;simp only[addEnt];refine vq_off LV 17 rfl ?_;simp only[addEnt];refine vq_off LV 18 rfl ?_;simp only[addEnt];refine vq_off LV 19 rfl ?_;simp only[addEnt];refine vq_off LV 20 rfl ?_;simp only[addEnt];refine vq_off LV 21 rfl ?_;simp only[addEnt];refine vq_off LV 22 rfl ?_;simp only[addEnt];refine vq_off LV 23 rfl ?_;simp only[addEnt];refine vq_off LV 24 rfl ?_;simp only[addEnt];refine vq_off LV 25 rfl ?_;simp only[addEnt];refine vq_off LV 26 rfl ?_;simp only[addEnt];refine vq_off LV 27 rfl ?_;simp only[addEnt];refine vq_off LV 28 rfl ?_;simp only[addEnt];refine vq_off LV 29 rfl ?_;simp only[addEnt];refine vq_off LV 30 rfl ?_;simp only[addEnt];refine vq_off LV 31 rfl ?_;simp only[addEnt];refine vq_off LV 32 rfl ?_;simp only[addEnt];refine vq_off LV 33 rfl ?_;simp only[addEnt];refine vq_is LV 34 (.bool false) rfl ?_;simp only[addEnt];refine loosev_nil (fun W9 vals hW hkn=> ?_);simp only[knowsAllV]at hkn
      try simp only[and_true]at hkn
      simp only[fill,Act.put,zsa,zsc,zsz];have HK12:=zh (show Keeps w10 W9 []from HK11.out.then_ hW);clear hkn LV hW HK11
      go_wp2_with fail
      exact⟨⟨k+1,by omega,by omega,by go_num,by rw[HAL.out];rfl,zh HK12.out⟩,by simp[intOf];omega⟩
     | true=>
      cases hv2:mtVal ⟨yf,yc,yq⟩with
      | false=>
       obtain⟨E,hE0,hE⟩:=setA_no hv2;have HE:=zh hE;rw[hv2]at HSM;clear hE hv2
       go_wp2_with fail
       refine HRS.out.mono ?_;rintro e w11 ⟨hk11,v11,rfl,_⟩;have HK11:=zh (HKR.out.then_ hk11);unfold ansV;rw[HE.out];clear hk11 d0 d1 d2
       go_upto_region 30 with fail
       have LV:LightV ([]:List Iv) KeepsAll (fun _=>KeepsAll):= .all keepsAll_ok keepsAll_ok;refine wp_region_ivs [] KeepsAll (fun _=>KeepsAll) _ 35 LV (by kernel_rfl) rfl (by kernel_rfl) ?_;simp only[zts,ztz,zds,zdz];refine vq_is LV 0 (.bool true) rfl ?_;simp only[addEnt];refine vq_is LV 1 (.bool true) rfl ?_;simp only[addEnt];refine vq_is LV 2 (.bool false) rfl ?_;simp only[addEnt];refine vq_is LV 3 (.bool false) rfl ?_;simp only[addEnt];refine vq_off LV 4 rfl ?_;simp only[addEnt];refine vq_off LV 5 rfl ?_;simp only[addEnt];refine vq_is LV 6 (.bool false) rfl ?_;simp only[addEnt];refine vq_is LV 7 (.bool false) rfl ?_;simp only[addEnt];refine vq_off LV 8 rfl ?_;simp only[addEnt];refine vq_off LV 9 rfl ?_;simp only[addEnt];refine vq_off LV 10 rfl ?_;simp only[addEnt];refine vq_off LV 11 rfl ?_;simp only[addEnt];refine vq_off LV 12 rfl ?_;simp only[addEnt];refine vq_off LV 13 rfl ?_;simp only[addEnt];refine vq_off LV 14 rfl ?_;simp only[addEnt];refine vq_off LV 15 rfl ?_;simp only[addEnt];refine vq_off LV 16 rfl ?_;simp only[addEnt];refine vq_off LV 17 rfl ?_;simp only[addEnt];refine vq_off LV 18 rfl ?_;simp only[addEnt];refine vq_is LV 19 (.bool false) rfl ?_;simp only[addEnt];refine vq_is LV 20 (.bool false) rfl ?_;simp only[addEnt];refine vq_off LV 21 rfl ?_;simp only[addEnt];refine vq_off LV 22 rfl ?_;simp only[addEnt];refine vq_off LV 23 rfl ?_;simp only[addEnt];refine vq_off LV 24 rfl ?_;simp only[addEnt];refine vq_off LV 25 rfl ?_;simp only[addEnt];refine vq_off LV 26 rfl ?_;simp only[addEnt];refine vq_off LV 27 rfl ?_;simp only[addEnt];refine vq_off LV 28 rfl ?_;simp only[addEnt];refine vq_off LV 29 rfl ?_;simp only[addEnt];refine vq_off LV 30 rfl ?_;simp only[addEnt];refine vq_off LV 31 rfl ?_;simp only[addEnt];refine vq_is LV 32 (.bool false) rfl ?_;simp only[addEnt];refine vq_is LV 33 (.bool true) rfl ?_;simp only[addEnt];refine vq_is LV 34 (.bool true) rfl ?_;simp only[addEnt];refine loosev_nil (fun W9 vals hW hkn=> ?_);simp only[knowsAllV]at hkn
       try simp only[and_true]at hkn
       simp only[fill,Act.put,zsa,zsc,zsz];have HK12:=zh (show Keeps w10 W9 []from HK11.out.then_ hW);clear hkn LV hW HK11
       go_wp2_with fail
       exact⟨⟨k+1,by omega,by omega,by go_num,by rw[HAL.out,HSM.out];rfl,zh HK12.out⟩,by simp[intOf];omega⟩
      | true=>
       have HE:=zh (setA_yes (L:= []) hv2 (by simp));rw[hv2]at HSM;clear hv2
       go_wp2_with fail
       refine HRS.out.mono ?_;rintro e w11 ⟨hk11,v11,rfl,_⟩;have HK11:=zh (HKR.out.then_ hk11);have HKW3:=zh (HKW2.out.then_ hk11);unfold ansV;rw[HE.out,show(!mtHas [] yf yc)=true from rfl];have M10:=fun(W' :World) (hW:Keeps w11 W' [])=>HCW.out W' (HKW3.out.then_ hW) 0 (by omega)
       have M11:=fun(W' :World) (hW:Keeps w11 W' [])=>HCW.out W' (HKW3.out.then_ hW) 1 (by omega)
       have M20:=fun(W' :World) (hW:Keeps w11 W' [])=>HCK.out W' (HKW3.out.then_ hW) 0 (by omega)
       have M21:=fun(W' :World) (hW:Keeps w11 W' [])=>HCK.out W' (HKW3.out.then_ hW) 1 (by omega)
       simp only[sbC,zgz,zgs,Nat.add_zero,HXY.out.1,HXY.out.2,HXY2.out.1,HXY2.out.2]at M10 M11 M20 M21;clear hk11 d0 d1 d2
       cases h1:(X2.toList==X.toList)with
       | false=>
        rw[h1]at HSM
        go_upto_region 30 with fail
        have LV:LightV ([]:List Iv) KeepsAll (fun _=>KeepsAll):= .all keepsAll_ok keepsAll_ok;refine wp_region_ivs [] KeepsAll (fun _=>KeepsAll) _ 35 LV (by kernel_rfl) rfl (by kernel_rfl) ?_;simp only[zts,ztz,zds,zdz];refine vq_is LV 0 (.bool true) rfl ?_;simp only[addEnt];refine vq_is LV 1 (.bool true) rfl ?_;simp only[addEnt];refine vq_is LV 2 (.bool true) rfl ?_;simp only[addEnt];refine vq_is LV 3 (.bool true) rfl ?_;simp only[addEnt];refine vq_is LV 4 (.int .i64 0) rfl ?_;simp only[addEnt];refine vq_is LV 5 (.bool true) rfl ?_;simp only[addEnt];refine vq_is LV 6 (.bool true) rfl ?_;simp only[addEnt];refine vq_is LV 7 (.bool true) rfl ?_;simp only[addEnt];refine vq_is LV 8 (.slice (some ⟨b,o,none⟩) l.length c) rfl ?_;simp only[addEnt];refine vq_is LV 9 (.int .i64 (k:Nat)) rfl ?_;simp only[addEnt];refine vq_index LV 10 22 (.tmp 162) (.tmp 163) b o (l.length) (c) (k) 3 rfl (hkl) ?_;simp only[addEnt];refine vq_is LV 11 (.pointer (some ⟨b,o+k*3+0,none⟩)) rfl ?_;simp only[addEnt];refine vq_load LV 12 9 (.tmp 165) ⟨b,o+k*3+0,none⟩ (.string X2) rfl (fun W hW=>M20 W hW) ?_;simp only[addEnt];refine vq_is LV 13 (.slice (some ⟨b,o,none⟩) l.length c) rfl ?_;simp only[addEnt];refine vq_is LV 14 (.int .i64 (j:Nat)) rfl ?_;simp only[addEnt];refine vq_index LV 15 22 (.tmp 167) (.tmp 168) b o (l.length) (c) (j) 3 rfl (hjl) ?_;simp only[addEnt];refine vq_is LV 16 (.pointer (some ⟨b,o+j*3+0,none⟩)) rfl ?_;simp only[addEnt];refine vq_load LV 17 9 (.tmp 170) ⟨b,o+j*3+0,none⟩ (.string X) rfl (fun W hW=>M10 W hW) ?_;simp only[addEnt];apply loosev_is 18 _ rfl
        ·intro W vals hW hkn
         clear hkn;have hC:=hW.c;refine⟨?_⟩;simp only[fill];go_simp
         first | exact⟨LV.stp (Keeps.refl _ _),rfl⟩ | exact⟨LV.stp (Keeps.alloc _ _),rfl⟩
        simp only[addEnt];refine vq_is LV 19 (.bool false) rfl ?_;simp only[addEnt];refine vq_is LV 20 (.bool false) rfl ?_;simp only[addEnt];refine vq_off LV 21 rfl ?_;simp only[addEnt];refine vq_off LV 22 rfl ?_;simp only[addEnt];refine vq_off LV 23 rfl ?_;simp only[addEnt];refine vq_off LV 24 rfl ?_;simp only[addEnt];refine vq_off LV 25 rfl ?_;simp only[addEnt];refine vq_off LV 26 rfl ?_;simp only[addEnt];refine vq_off LV 27 rfl ?_;simp only[addEnt];refine vq_off LV 28 rfl ?_;simp only[addEnt];refine vq_off LV 29 rfl ?_;simp only[addEnt];refine vq_off LV 30 rfl ?_;simp only[addEnt];refine vq_off LV 31 rfl ?_;simp only[addEnt];refine vq_is LV 32 (.bool false) rfl ?_;simp only[addEnt];refine vq_is LV 33 (.bool true) rfl ?_;simp only[addEnt];refine vq_is LV 34 (.bool true) rfl ?_;simp only[addEnt];refine loosev_nil (fun W9 vals hW hkn=> ?_);simp only[knowsAllV]at hkn
        try simp only[and_true]at hkn
        simp only[fill,Act.put,zsa,zsc,zsz];have HK12:=zh (show Keeps w10 W9 []from HK11.out.then_ hW);clear hkn LV hW HK11 M10 M11 M20 M21
        go_wp2_with fail
        exact⟨⟨k+1,by omega,by omega,by go_num,by rw[HAL.out,HSM.out];rfl,zh HK12.out⟩,by simp[intOf];omega⟩
       | true=>
        rw[h1]at HSM;obtain⟨z3,h3⟩:∃z,(Y2.toList==Y.toList)=z:=⟨_,rfl⟩;rw[h3]at HSM
        go_upto_region 30 with fail
        have LV:LightV ([]:List Iv) KeepsAll (fun _=>KeepsAll):= .all keepsAll_ok keepsAll_ok;refine wp_region_ivs [] KeepsAll (fun _=>KeepsAll) _ 35 LV (by kernel_rfl) rfl (by kernel_rfl) ?_;simp only[zts,ztz,zds,zdz];refine vq_is LV 0 (.bool true) rfl ?_;simp only[addEnt];refine vq_is LV 1 (.bool true) rfl ?_;simp only[addEnt];refine vq_is LV 2 (.bool true) rfl ?_;simp only[addEnt];refine vq_is LV 3 (.bool true) rfl ?_;simp only[addEnt];refine vq_is LV 4 (.int .i64 0) rfl ?_;simp only[addEnt];refine vq_is LV 5 (.bool true) rfl ?_;simp only[addEnt];refine vq_is LV 6 (.bool true) rfl ?_;simp only[addEnt];refine vq_is LV 7 (.bool true) rfl ?_;simp only[addEnt];refine vq_is LV 8 (.slice (some ⟨b,o,none⟩) l.length c) rfl ?_;simp only[addEnt];refine vq_is LV 9 (.int .i64 (k:Nat)) rfl ?_;simp only[addEnt];refine vq_index LV 10 22 (.tmp 162) (.tmp 163) b o (l.length) (c) (k) 3 rfl (hkl) ?_;simp only[addEnt];refine vq_is LV 11 (.pointer (some ⟨b,o+k*3+0,none⟩)) rfl ?_;simp only[addEnt];refine vq_load LV 12 9 (.tmp 165) ⟨b,o+k*3+0,none⟩ (.string X2) rfl (fun W hW=>M20 W hW) ?_;simp only[addEnt];refine vq_is LV 13 (.slice (some ⟨b,o,none⟩) l.length c) rfl ?_;simp only[addEnt];refine vq_is LV 14 (.int .i64 (j:Nat)) rfl ?_;simp only[addEnt];refine vq_index LV 15 22 (.tmp 167) (.tmp 168) b o (l.length) (c) (j) 3 rfl (hjl) ?_;simp only[addEnt];refine vq_is LV 16 (.pointer (some ⟨b,o+j*3+0,none⟩)) rfl ?_;simp only[addEnt];refine vq_load LV 17 9 (.tmp 170) ⟨b,o+j*3+0,none⟩ (.string X) rfl (fun W hW=>M10 W hW) ?_;simp only[addEnt];apply loosev_is 18 _ rfl
        ·intro W vals hW hkn
         clear hkn;have hC:=hW.c;refine⟨?_⟩;simp only[fill];go_simp
         first | exact⟨LV.stp (Keeps.refl _ _),rfl⟩ | exact⟨LV.stp (Keeps.alloc _ _),rfl⟩
        simp only[addEnt];refine vq_is LV 19 (.bool true) rfl ?_;simp only[addEnt];refine vq_is LV 20 (.bool true) rfl ?_;simp only[addEnt];refine vq_is LV 21 (.slice (some ⟨b,o,none⟩) l.length c) rfl ?_;simp only[addEnt];refine vq_is LV 22 (.int .i64 (k:Nat)) rfl ?_;simp only[addEnt];refine vq_index LV 23 22 (.tmp 175) (.tmp 176) b o (l.length) (c) (k) 3 rfl (hkl) ?_;simp only[addEnt];refine vq_is LV 24 (.pointer (some ⟨b,o+k*3+1,none⟩)) rfl ?_;simp only[addEnt];refine vq_load LV 25 9 (.tmp 178) ⟨b,o+k*3+1,none⟩ (.string Y2) rfl (fun W hW=>M21 W hW) ?_;simp only[addEnt];refine vq_is LV 26 (.slice (some ⟨b,o,none⟩) l.length c) rfl ?_;simp only[addEnt];refine vq_is LV 27 (.int .i64 (j:Nat)) rfl ?_;simp only[addEnt];refine vq_index LV 28 22 (.tmp 180) (.tmp 181) b o (l.length) (c) (j) 3 rfl (hjl) ?_;simp only[addEnt];refine vq_is LV 29 (.pointer (some ⟨b,o+j*3+1,none⟩)) rfl ?_;simp only[addEnt];refine vq_load LV 30 9 (.tmp 183) ⟨b,o+j*3+1,none⟩ (.string Y) rfl (fun W hW=>M11 W hW) ?_;simp only[addEnt];apply loosev_is 31 _ rfl
        ·intro W vals hW hkn
         clear hkn;have hC:=hW.c;refine⟨?_⟩;simp only[fill];go_simp
         first | exact⟨LV.stp (Keeps.refl _ _),rfl⟩ | exact⟨LV.stp (Keeps.alloc _ _),rfl⟩
        simp only[addEnt];refine vq_is LV 32 (.bool z3) rfl ?_;simp only[addEnt];refine vq_is LV 33 (.bool (!z3)) rfl ?_;simp only[addEnt];refine vq_is LV 34 (.bool (!z3)) rfl ?_;simp only[addEnt];refine loosev_nil (fun W9 vals hW hkn=> ?_);simp only[knowsAllV]at hkn
        try simp only[and_true]at hkn
        simp only[fill,Act.put,zsa,zsc,zsz];have HK12:=zh (show Keeps w10 W9 []from HK11.out.then_ hW);clear hkn LV hW HK11 M10 M11 M20 M21
        cases z3 <;> go_wp2_with fail
        ·exact⟨⟨k+1,by omega,by omega,by go_num,by rw[HAL.out,HSM.out];rfl,zh HK12.out⟩,by simp[intOf];omega⟩
        ·exact⟨⟨k+1,by omega,by omega,by go_num,by rw[HAL.out,HSM.out];rfl,zh HK12.out⟩,by simp[intOf];omega⟩
    ·obtain rfl:k=l.length:=by omega
     have HK12:=zh HR.out;have HAY:=zh (show AlAt w wr d l nm (j+1) u8 ones from⟨HAX.out.bk.keeps HR.out,HAX.out.own.keeps HR.out,HAX.out.le,fun x hx=>(HAX.out.el x hx).keeps HR.out⟩);have HLY:=zh (HLX.out.keeps HR.out);rw[List.take_length];obtain⟨bl,hbl⟩:∃z,((l.drop (j+1)).all fun y=> !mtSame ⟨xf,xc,xq⟩ y)=z:=⟨_,rfl⟩;have HBL:=zh hbl;simp only[hbl];clear hbl HR HAX HLX
     cases bl with
     | false=>
      go_wp2_with fail
      exact⟨⟨j+1,by omega,by go_num,zh ⟨ones,HAY.out⟩⟩,by simp[intOf];omega⟩
     | true=>
      have HON:=zh (show OneAt l nm wr (A8,T8.length,c8)from⟨j,hjl,by rw[HX.out];exact HV.out,by rw[HX.out];exact HBL.out,by rw[HX.out,HT8.out],by rw[HX.out,HT8.out];exact HLY.out⟩);obtain⟨A9,n9,rfl⟩:=OwnN.slice HAY.out.own;obtain⟨Wc,hWc⟩:∃Wc,wr.alloc (.cells #[.slice A8 T8.length c8] 37)=Wc:=⟨_,rfl⟩;have kc:Keeps wr Wc []:=by rw[←hWc];exact Keeps.alloc _ _
      have HLa:=zh (show Lies Wc Wc.heap.size (some ⟨wr.heap.size,0,none⟩) ([(A8,T8.length,c8)].flatMap oneC)from lies_of_row (cs:= #[.slice A8 T8.length c8]) (by rw[←hWc];exact Row.new _ _ _) rfl);have HKc:=zh kc;have HO9:=zh (HAY.out.own.keeps kc);have hbs:w.heap.size≤Wc.heap.size:=Nat.le_trans HAY.out.bk.k.size kc.size;have HON9:=zh (show ones.length≤20 from by have:=HLO.out;omega);clear kc
      go_upto_region 32 with fail
      go_wp2_with (at_builtin;refine wpList_append_N elemOne encOne rfl (.tmp 190) (.tmp 192) rfl w.heap.size (.slice A9 ones.length n9) (some ⟨wr.heap.size,0,none⟩) 1 1 ones [(A8,T8.length,c8)] rfl rfl rfl HO9.out HLa.out (by have:=HON9.out;simp;omega) hbs ?_;intro A7 c7 w7b l7 hl7 hlen7 ho7 hk7 hb7;refine Hid.out ?_)
      refine zh ?_;have HNX:=zh (HAY.out.app HKc.out hk7 HO9.out (by rw[←hl7.out];exact ho7) HON.out HLO.out);rw[←hl7.out]at HNX;clear ho7 hk7 hb7 hWc hbs hlen7
      go_wp2_with fail
      exact⟨⟨j+1,by omega,by go_num,zh ⟨_,HNX.out⟩⟩,by simp[intOf];omega⟩
set_option maxRecDepth 100000 in
set_option maxHeartbeats 8000000 in
theorem alone_end (w:World)(A:Option Addr)(c:Nat)(l:List Sb)(nm:List UInt8):(alonePart w A c l nm).2.1:=by
 unfold alonePart;intro HKN HM HL HLE NM HNM HZ kA u28 u29 u30 u31 u32 u33 u34 u35 u36 u37 u38 u39 u40 u41 A1 n1 HFB HN3 HTN kB kC kD w2 w3 kE w4 d kF HB4 kG kH wr u4 u8 u10 u11 u12 u13 u14 u15 u16 u17 u18 u19 u20 u21 u22 u57 u58 u59 u60 u61 u62 u63 u64 u65 u66 u67 u68 u69 u70 u71 u72 u73 u74 u75 u76 u77 u78 u79 u80 u81 u82 u83 u84 u85 u86 u87 u88 u89 u90 u91 u92 u93 u94 u95 u96 u97 u98 u99 u100 u101 u102 u103 u104 u105 u106 u107 u108 u109 u110 u111 u112 u113 u114 u115 u116 u117 u118 u119 u120 u121 u122 u123 u124 u125 u126 u127 u128 u129 u130 u131 u132 u133 u134 u135 u136 u137 u138 u139 u140 u141 u142 u143 u144 u145 u146 u147 u148 u149 u150 u151 u152 u153 u154 u155 u156 u157 u158 u159 u160 u161 u162 u163 u164 u165 u166 u167 u168 u169 u170 u171 u172 u173 u174 u175 u176 u177 u178 u179 u180 u181 u182 u183 u184 u185 u186 u187 u188 u189 u190 u191 u192 u193 j hj HJ hjl;obtain rfl:j=l.length:=by omega
 obtain⟨ones,HA⟩:∃ones,Hid (AlAt w wr d l nm l.length u8 ones):=by
  obtain⟨o,h⟩:=HJ.out;exact⟨o,zh h⟩
 obtain⟨A9,n9,rfl⟩:=OwnN.slice HA.out.own;have HBK:=zh (show BkIn w wr d (mtAllA [] l)from by have h:=HA.out.bk;rwa [List.take_length]at h);have HME:=zh (HBK.out.meets HM.out nm (by have:=HN3.out;omega));rw[HNM.out]at HME;clear HJ
 go_wp2_with fail
 refine HME.out.mono ?_;rintro e w5 ⟨hk5,v5,rfl,ho5⟩;rw[HTN.out,if_pos rfl]at ho5;rw[HTN.out,if_pos rfl];obtain⟨A5,c5,rfl,hl5⟩:=own_at encTd ho5;obtain⟨T,hT⟩:∃T,mtTold (mtAllA [] l) nm=T:=⟨_,rfl⟩;rw[hT]at hl5;simp only[hT];have HL5:=zh hl5;have HO5:=zh ((HA.out.own.at_ encOne).keeps hk5);have HE5:=zh (show∀x∈ones,OneAt l nm w5 x from fun x hx=>(HA.out.el x hx).keeps hk5);have HFO:=zh (show∀k (h:k < l.length),mtVal l[k]=true→((l.drop (k+1)).all fun y=> !mtSame l[k] y)=true→foundIn T (mtTold [l[k]] nm)=true from fun k h h1 h2=>by
  rw[←hT];exact found_one (alone_in (by have:=HFB.out.1;omega) h h1 h2))
 have HKW5:=zh (HBK.out.k.then_ hk5);have HTL:=zh (show T.length≤100000 from by
  rw[←hT];exact told_len (by have h:=(allA_ok MtOk.nil l).2;simp only[List.length_nil]at h;have:=HFB.out.1;omega))
 have HOL:=zh (show ones.length≤100 from by have:=HA.out.le;have:=HFB.out.1;omega);clear hk5 ho5 hl5 hT HME HBK HA
 go_wp2_with fail
 go_loopw [25] (fun i wr=>∃p:Nat,p≤ones.length∧i= .int .i64 p∧Hid (Keeps w5 wr [])) (fun i _=>ones.length - (intOf i).toNat)
 case atStart=>exact⟨0,by omega,rfl,zh (Keeps.refl _ _)⟩
 case round=>
  obtain⟨p,hp,rfl,HR⟩:=hrel;have hol:=HOL.out
  by_cases hpl:p < ones.length
  ·obtain⟨b9,o9,rfl,_,_⟩:=HO5.out.at_ hpl
   obtain⟨⟨x1,x2,x3⟩,hx⟩:∃x,ones[p]=x:=⟨_,rfl⟩;have H9:=zh (show∀W,Keeps w5 W []→W.cell? ⟨b9,o9+p*1,none⟩=some (.slice x1 x2 x3)from fun W hk=>by
    obtain⟨b',o',e,_,hc'⟩:=(HO5.out.keeps hk).at_ hpl;injection e with e
    injection e with e1 e2
    subst e1 e2;have h:=hc' 0 (by omega);rw[hx]at h
    simpa [oneC]using h)
   obtain⟨k,hk,h1,h2,h3,h4⟩:=HE5.out _ (List.getElem_mem hpl);have hf:=HFO.out k hk h1 h2;rw[hx]at h3 h4;rw[told_one]at h3 h4 hf;obtain⟨⟨sf,sc,sq⟩,hs⟩:∃s,l[k]=s:=⟨_,rfl⟩;rw[hs]at h3 h4 hf;have c9:=H9.out wr HR.out;rw[Nat.mul_one]at c9
   cases hB:tMeets sf nm with
   | false=>
    simp only[hB]at h3;rw[if_neg (by decide)]at h3;simp only[List.length_nil]at h3;subst h3;clear hf h4 hx hs h1 h2 hB
    go_wp2_with fail
    go_loopw [26,27] (fun v i wr' =>v= .bool true∧i= .int .i64 0∧Hid (Keeps w5 wr' [])) (fun _ _ _=>0)
    case atStart=>exact⟨rfl,rfl,HR⟩
    case round=>
     obtain⟨rfl,rfl,HRR⟩:=hrel;have htl:=HTL.out
     by_cases hT0:(0:Int) < T.length
     all_goals go_wp2_with fail
     all_goals exact⟨⟨p+1,by omega,by go_num,zh HRR.out⟩,by simp[intOf];omega⟩
   | true=>
    simp only[hB,if_true]at h3 h4 hf;obtain⟨b1,o1,rfl,_,_⟩:=h4.at_ (i:=0) (by simp);have H1:=zh (show∀W,Keeps w5 W []→∀i,i < 2→W.cell? ⟨b1,o1+i,none⟩=(tdC (sc,sq))[i]? from fun W hk i hi=>by
     obtain⟨b',o',e,_,hc'⟩:=(h4.keeps hk).at_ (i:=0) (by simp);injection e with e
     injection e with e1 e2
     subst e1 e2;have h:=hc' i hi;rw[Nat.zero_mul,Nat.add_zero]at h;exact h)
    obtain⟨SC,hSC⟩:∃S:ByteArray,(⟨sc.toArray⟩:ByteArray)=S:=⟨_,rfl⟩;have HSC:=zh hSC;have HF:=zh (show(T.any fun x=>x.1==sc && decide (sq≤x.2))=true from hf);simp only[List.length_cons,List.length_nil,Nat.zero_add]at h3;subst h3;clear h4 hf hx hs h1 h2 hB hSC;have htl:=HTL.out
    go_wp2_with fail
    go_loopw [26,27] (fun v i wr' =>∃m:Nat,m≤T.length∧i= .int .i64 m∧v= .bool ((T.take m).any fun x=>x.1==sc && decide (sq≤x.2))∧Hid (Keeps w5 wr' [])) (fun _ i _=>T.length - (intOf i).toNat)
    case atStart=>exact⟨0,by omega,rfl,rfl,HR⟩
    case round=>
     obtain⟨m,hm,rfl,rfl,HR2⟩:=hrel
     by_cases hml:m < T.length
     ·have HAN:=zh (any_snoc (p:=fun x:List UInt8×Int=>x.1==sc && decide (sq≤x.2)) hml)
      obtain⟨fd,hfd⟩:∃z,((T.take m).any fun x=>x.1==sc && decide (sq≤x.2))=z:=⟨_,rfl⟩;rw[hfd]at HAN;simp only[hfd];clear hfd
      cases fd with
      | true=>
       clear HAN
       go_wp2_with fail
       exact⟨⟨p+1,by omega,by go_num,zh HR2.out⟩,by simp[intOf];omega⟩
      | false=>
       obtain⟨bT,oT,rfl,_,_⟩:=HL5.out.at_ hml;obtain⟨⟨tc,tq⟩,ht⟩:∃x,T[m]=x:=⟨_,rfl⟩;have H5:=zh (show∀W,Keeps w5 W []→∀i,i < 2→W.cell? ⟨bT,oT+m*2+i,none⟩=(tdC (tc,tq))[i]? from fun W hk i hi=>by
        rw[←ht];obtain⟨b',o',e,_,hc'⟩:=(HL5.out.keeps hk).at_ hml;injection e with e
        injection e with e1 e2
        subst e1 e2;exact hc' i hi)
       rw[ht]at HAN;obtain⟨TC,hTC⟩:∃S:ByteArray,(⟨tc.toArray⟩:ByteArray)=S:=⟨_,rfl⟩;have HTC:=zh hTC;have HEQ:=zh (show(tc==sc)=(TC.toList==SC.toList)from by rw[←hTC,←HSC.out,Lib.toList_data,Lib.toList_data]);have NT0:=fun(W:World) (hk:Keeps wr W [])=>H5.out W (HR2.out.then_ hk) 0 (by omega)
       have NT1:=fun(W:World) (hk:Keeps wr W [])=>H5.out W (HR2.out.then_ hk) 1 (by omega)
       have NS0:=fun(W:World) (hk:Keeps wr W [])=>H1.out W (HR2.out.then_ hk) 0 (by omega)
       have NS1:=fun(W:World) (hk:Keeps wr W [])=>H1.out W (HR2.out.then_ hk) 1 (by omega)
       have N9:=fun(W:World) (hk:Keeps wr W [])=>H9.out W (HR2.out.then_ hk)
       simp only[tdC,zgz,zgs,Nat.add_zero,HTC.out,HSC.out]at NT0 NT1 NS0 NS1;clear ht hTC
       cases hF:(TC.toList==SC.toList)with
       | false=>
        rw[hF]at HEQ
        go_upto_region 41 with fail
        have LV:LightV ([]:List Iv) KeepsAll (fun _=>KeepsAll):= .all keepsAll_ok keepsAll_ok;refine wp_region_ivs [] KeepsAll (fun _=>KeepsAll) _ 28 LV (by kernel_rfl) rfl (by kernel_rfl) ?_;simp only[zts,ztz,zds,zdz];refine vq_is LV 0 (.slice (some ⟨bT,oT,none⟩) T.length c5) rfl ?_;simp only[addEnt];refine vq_is LV 1 (.int .i64 (m:Nat)) rfl ?_;simp only[addEnt];refine vq_index LV 2 37 (.tmp 222) (.tmp 223) bT oT (T.length) (c5) (m) 2 rfl (hml) ?_;simp only[addEnt];refine vq_is LV 3 (.pointer (some ⟨bT,oT+m*2+0,none⟩)) rfl ?_;simp only[addEnt];refine vq_load LV 4 9 (.tmp 225) ⟨bT,oT+m*2+0,none⟩ (.string TC) rfl (fun W hW=>NT0 W hW) ?_;simp only[addEnt];refine vq_is LV 5 (.slice (some ⟨b9,o9,none⟩) ones.length n9) rfl ?_;simp only[addEnt];refine vq_is LV 6 (.int .i64 (p:Nat)) rfl ?_;simp only[addEnt];refine vq_index LV 7 33 (.tmp 227) (.tmp 228) b9 o9 (ones.length) (n9) (p) 1 rfl (hpl) ?_;simp only[addEnt];refine vq_load LV 8 37 (.tmp 229) ⟨b9,o9+p*1,none⟩ (.slice (some ⟨b1,o1,none⟩) 1 x3) rfl (fun W hW=>N9 W hW) ?_;simp only[addEnt];refine vq_is LV 9 (.pointer (some ⟨b1,o1,none⟩)) rfl ?_;simp only[addEnt];refine vq_is LV 10 (.pointer (some ⟨b1,o1+0,none⟩)) rfl ?_;simp only[addEnt];refine vq_load LV 11 9 (.tmp 232) ⟨b1,o1+0,none⟩ (.string SC) rfl (fun W hW=>NS0 W hW) ?_;simp only[addEnt];apply loosev_is 12 _ rfl
        ·intro W vals hW hkn
         clear hkn;have hC:=hW.c;refine⟨?_⟩;simp only[fill];go_simp
         first | exact⟨LV.stp (Keeps.refl _ _),rfl⟩ | exact⟨LV.stp (Keeps.alloc _ _),rfl⟩
        simp only[addEnt];refine vq_is LV 13 (.bool false) rfl ?_;simp only[addEnt];refine vq_off LV 14 rfl ?_;simp only[addEnt];refine vq_off LV 15 rfl ?_;simp only[addEnt];refine vq_off LV 16 rfl ?_;simp only[addEnt];refine vq_off LV 17 rfl ?_;simp only[addEnt];refine vq_off LV 18 rfl ?_;simp only[addEnt];refine vq_off LV 19 rfl ?_;simp only[addEnt];refine vq_off LV 20 rfl ?_;simp only[addEnt];refine vq_off LV 21 rfl ?_;simp only[addEnt];refine vq_off LV 22 rfl ?_;simp only[addEnt];refine vq_off LV 23 rfl ?_;simp only[addEnt];refine vq_off LV 24 rfl ?_;simp only[addEnt];refine vq_off LV 25 rfl ?_;simp only[addEnt];refine vq_off LV 26 rfl ?_;simp only[addEnt];refine vq_is LV 27 (.bool false) rfl ?_;simp only[addEnt];refine loosev_nil (fun W9 vals hW hkn=> ?_);simp only[knowsAllV]at hkn
        try simp only[and_true]at hkn
        simp only[fill,Act.put,zsa,zsc,zsz];have HK9:=zh (show Keeps w5 W9 []from HR2.out.then_ hW);clear hkn LV hW NT0 NT1 NS0 NS1 N9
        go_wp2_with fail
        exact⟨⟨m+1,by omega,by go_num,by rw[HAN.out];simp only[HEQ.out];rfl,zh HK9.out⟩,by simp[intOf];omega⟩
       | true=>
        rw[hF]at HEQ;obtain⟨ZQ,hZQ⟩:∃z,decide (sq≤tq)=z:=⟨_,rfl⟩
        go_upto_region 41 with fail
        have LV:LightV ([]:List Iv) KeepsAll (fun _=>KeepsAll):= .all keepsAll_ok keepsAll_ok;refine wp_region_ivs [] KeepsAll (fun _=>KeepsAll) _ 28 LV (by kernel_rfl) rfl (by kernel_rfl) ?_;simp only[zts,ztz,zds,zdz];refine vq_is LV 0 (.slice (some ⟨bT,oT,none⟩) T.length c5) rfl ?_;simp only[addEnt];refine vq_is LV 1 (.int .i64 (m:Nat)) rfl ?_;simp only[addEnt];refine vq_index LV 2 37 (.tmp 222) (.tmp 223) bT oT (T.length) (c5) (m) 2 rfl (hml) ?_;simp only[addEnt];refine vq_is LV 3 (.pointer (some ⟨bT,oT+m*2+0,none⟩)) rfl ?_;simp only[addEnt];refine vq_load LV 4 9 (.tmp 225) ⟨bT,oT+m*2+0,none⟩ (.string TC) rfl (fun W hW=>NT0 W hW) ?_;simp only[addEnt];refine vq_is LV 5 (.slice (some ⟨b9,o9,none⟩) ones.length n9) rfl ?_;simp only[addEnt];refine vq_is LV 6 (.int .i64 (p:Nat)) rfl ?_;simp only[addEnt];refine vq_index LV 7 33 (.tmp 227) (.tmp 228) b9 o9 (ones.length) (n9) (p) 1 rfl (hpl) ?_;simp only[addEnt];refine vq_load LV 8 37 (.tmp 229) ⟨b9,o9+p*1,none⟩ (.slice (some ⟨b1,o1,none⟩) 1 x3) rfl (fun W hW=>N9 W hW) ?_;simp only[addEnt];refine vq_is LV 9 (.pointer (some ⟨b1,o1,none⟩)) rfl ?_;simp only[addEnt];refine vq_is LV 10 (.pointer (some ⟨b1,o1+0,none⟩)) rfl ?_;simp only[addEnt];refine vq_load LV 11 9 (.tmp 232) ⟨b1,o1+0,none⟩ (.string SC) rfl (fun W hW=>NS0 W hW) ?_;simp only[addEnt];apply loosev_is 12 _ rfl
        ·intro W vals hW hkn
         clear hkn;have hC:=hW.c;refine⟨?_⟩;simp only[fill];go_simp
         first | exact⟨LV.stp (Keeps.refl _ _),rfl⟩ | exact⟨LV.stp (Keeps.alloc _ _),rfl⟩
        simp only[addEnt];refine vq_is LV 13 (.bool true) rfl ?_;simp only[addEnt];refine vq_is LV 14 (.slice (some ⟨bT,oT,none⟩) T.length c5) rfl ?_;simp only[addEnt];refine vq_is LV 15 (.int .i64 (m:Nat)) rfl ?_;simp only[addEnt];refine vq_index LV 16 37 (.tmp 236) (.tmp 237) bT oT (T.length) (c5) (m) 2 rfl (hml) ?_;simp only[addEnt];refine vq_is LV 17 (.pointer (some ⟨bT,oT+m*2+1,none⟩)) rfl ?_;simp only[addEnt];refine vq_load LV 18 3 (.tmp 239) ⟨bT,oT+m*2+1,none⟩ (.int .i64 tq) rfl (fun W hW=>NT1 W hW) ?_;simp only[addEnt];refine vq_is LV 19 (.slice (some ⟨b9,o9,none⟩) ones.length n9) rfl ?_;simp only[addEnt];refine vq_is LV 20 (.int .i64 (p:Nat)) rfl ?_;simp only[addEnt];refine vq_index LV 21 33 (.tmp 241) (.tmp 242) b9 o9 (ones.length) (n9) (p) 1 rfl (hpl) ?_;simp only[addEnt];refine vq_load LV 22 37 (.tmp 243) ⟨b9,o9+p*1,none⟩ (.slice (some ⟨b1,o1,none⟩) 1 x3) rfl (fun W hW=>N9 W hW) ?_;simp only[addEnt];refine vq_is LV 23 (.pointer (some ⟨b1,o1,none⟩)) rfl ?_;simp only[addEnt];refine vq_is LV 24 (.pointer (some ⟨b1,o1+1,none⟩)) rfl ?_;simp only[addEnt];refine vq_load LV 25 3 (.tmp 246) ⟨b1,o1+1,none⟩ (.int .i64 sq) rfl (fun W hW=>NS1 W hW) ?_;simp only[addEnt];apply loosev_is 26 _ rfl
        ·intro W vals hW hkn
         clear hkn;have hC:=hW.c;refine⟨?_⟩;simp only[fill];go_simp
         first | exact⟨LV.stp (Keeps.refl _ _),rfl⟩ | exact⟨LV.stp (Keeps.alloc _ _),rfl⟩
        simp only[addEnt];refine vq_is LV 27 (.bool ZQ) rfl ?_;simp only[addEnt];refine loosev_nil (fun W9 vals hW hkn=> ?_);simp only[knowsAllV]at hkn
        try simp only[and_true]at hkn
        simp only[fill,Act.put,zsa,zsc,zsz];have HK9:=zh (show Keeps w5 W9 []from HR2.out.then_ hW);have HZQ:=zh hZQ;clear hkn LV hW NT0 NT1 NS0 NS1 N9 hZQ
        go_wp2_with fail
        exact⟨⟨m+1,by omega,by go_num,by rw[HAN.out];simp only[HEQ.out,HZQ.out];cases ZQ <;> rfl,zh HK9.out⟩,by simp[intOf];omega⟩
     ·obtain rfl:m=T.length:=by omega
      rw[List.take_length,HF.out]
      go_wp2_with fail
      exact⟨⟨p+1,by omega,by go_num,zh HR2.out⟩,by simp[intOf];omega⟩
  ·obtain rfl:p=ones.length:=by omega
   have HKL:=zh (HKW5.out.then_ HR.out);clear HR
   go_wp2_with fail
   refine(HKN.out _ HKL.out).mono ?_;rintro e w9 ⟨rfl,hk⟩;have HK9:=zh (HKL.out.then_ hk);clear hk
   go_wp2_with fail
   go_ret;exact⟨rfl,HK9.out⟩
theorem matchAlone_any (w:World)(A:Option Addr)(c:Nat)(l:List Sb)(nm:List UInt8)(hm:MaxL w)(hl:ListG w 3 sbC A l)(hle:l.length*40≤140737488351232):
  Calls Tryz.prog 3 #[.slice A l.length c,.string ⟨nm.toArray⟩] w (TruePost w true):=
 (alonePart w A c l nm).2.2 (alone_lt w A c l nm) (alone_end w A c l nm) hm hl hle
end Go.Proofs.YtoadlafdeoklbaaGreatDoor

namespace Go.Proofs.YtoadlafdeoklbaaGreatDoor
open Go.ChangeShapes Go.WideShapes Go.RowKit Go.Joins Go.Deep

theorem oUndInt:Tryz.prog.underlying 3=some (.int .i64):=by kernel_rfl
theorem oUndStr:Tryz.prog.underlying 9=some .string:=by kernel_rfl
theorem oCellsInt:Tryz.prog.cellsOf 3=1:=by kernel_rfl
theorem oCellsStr:Tryz.prog.cellsOf 9=1:=by kernel_rfl
theorem oCellsSub:Tryz.prog.cellsOf 25=3:=by kernel_rfl
theorem oUndSubs:Tryz.prog.underlying 22=some (.slice 25):=by kernel_rfl
theorem str_back (s:ByteArray):Value.string s= .string ⟨s.data.toList.toArray⟩:=by simp
section
variable {H:Type} {enc:TypeId×Value→H} {W:World}
theorem blk_of_cell {b i:Nat}{u:Value}(h:W.cell? ⟨b,i,none⟩=some u):∃cs,Blk W b cs:=by
 unfold World.cell? at h;simp only at h
 split at h
 ·rename_i cs t fr he
  exact⟨cs,t,fr,he⟩
 ·cases h
/-- A list out of an argument's cells. -/
theorem listG_of {α:Type} [Inhabited α] {k:Nat}{f:α→List Value}(E:Enc k f){a:Addr}{len:Nat}(hp:∀i,i < len→∃y:α,∀j,j < k→W.cell? (a.add (i*k+j))=(f y)[j]?):
  ∃l:List α,l.length=len∧ListG W k f (some a) l:=by
 obtain⟨Y,hY⟩:=choose_lt (α:=α) hp;have hlen:((List.range len).map Y).length=len:=by simp
 refine⟨(List.range len).map Y,hlen,fun hpos=> ?_⟩;rw[hlen]at hpos;obtain⟨ab,ao,spot⟩:=a;have hc0:=hY 0 hpos 0 E.pos;have hl:=E.len (Y 0);have hu:(f (Y 0))[0]? =some ((f (Y 0))[0]'(by rw[hl];exact E.pos)):=List.getElem?_eq_getElem _;rw[hu]at hc0;have hspot:spot=none:=by simpa [Addr.add]using World.cell?_spot hc0
 subst hspot;rw[Addr.add_lit]at hc0;obtain⟨cs,hb⟩:=blk_of_cell hc0;refine⟨ab,ao,cs,rfl,hb,fun i hi j hj=> ?_⟩;rw[hlen]at hi;have h:=hY i hi j hj;rw[Addr.add_lit,hb.cell]at h;simp only[List.getElem_map,List.getElem_range];rw[←h,Nat.add_assoc]
instance:Inhabited Sb:=⟨⟨[], [],0⟩⟩
set_option maxRecDepth 100000 in
theorem sub_of_trod {fuel:Nat}{cs:List Value}{x:DataW H×List MemPlace}(hf:DataW.trod enc Tryz.prog W 0 (fun _=>true) true fuel 25 cs=some x):∃y:Sb,cs=sbC y:=by
 obtain⟨xs,m,_,_,hl,hlen,hg⟩:=DataW.trod_struct Tryz.underlying25 hf;rw[oCellsSub]at hl
 match cs,hl with
 | [c0,c1,c2],_=>
  have h0:DataW.trod enc Tryz.prog W 0 (fun _=>true) true m 9 (([c0,c1,c2].drop 0).take (Tryz.prog.cellsOf 9))=xs[0]? :=hg 0 _ rfl;have h1:DataW.trod enc Tryz.prog W 0 (fun _=>true) true m 9 (([c0,c1,c2].drop 1).take (Tryz.prog.cellsOf 9))=xs[1]? :=hg 1 _ rfl;have h2:DataW.trod enc Tryz.prog W 0 (fun _=>true) true m 3 (([c0,c1,c2].drop 2).take (Tryz.prog.cellsOf 3))=xs[2]? :=hg 2 _ rfl;have hx:xs.length=3:=hlen;rw[oCellsStr,List.getElem?_eq_getElem (by omega)]at h0 h1;rw[oCellsInt,List.getElem?_eq_getElem (by omega)]at h2;obtain⟨s,e0,_⟩:=DataW.trod_string oUndStr h0;obtain⟨t,e1,_⟩:=DataW.trod_string oUndStr h1;obtain⟨n,e2,_,_⟩:=DataW.trod_int oUndInt h2;simp at e0 e1 e2;subst e0 e1 e2;exact⟨⟨s.data.toList,t.data.toList,n⟩,by unfold sbC;rw[←str_back,←str_back]⟩
set_option maxRecDepth 100000 in
theorem open_subs {v:Value}{d:DataW H}{p:List MemPlace}(h:DataW.Trod enc Tryz.prog W 0 (fun _=>true) true 22 v d p)(hs:∃a len cap,v= .slice a len cap):
  ∃A c l,v= .slice A l.length c∧ListG W 3 sbC A l∧(l.length=0∨∃el sp,d= .slice el sp∧el.length=l.length):=by
 obtain⟨a',len',cap',rfl⟩:=hs;obtain⟨fuel,hf⟩:=h
 rcases open_slice oUndSubs (show DataW.trod enc Tryz.prog W 0 (fun _=>true) true fuel 22 [.slice a' len' cap']=some (d,p)from hf)with⟨hcs,_⟩ | ⟨a,len,cap,m,n,D,Pl,hcs,_,hl,_,hmm,hd,hx⟩
 ·injection hcs with e
  exact⟨none,0, [],e,ListG.nil _ _ _ _,.inl rfl⟩
 ·injection hcs with e
  simp only[if_true]at hmm;subst hmm;injection hd with hd
  obtain⟨l,hlen,hg⟩:=listG_of (W:=W) (f:=sbC) encSb (a:=a) (len:=len) (fun i hi=>by
   obtain⟨cs,h1,h2⟩:=hx i (by omega);rw[oCellsSub]at h1;obtain⟨y,rfl⟩:=sub_of_trod h2;obtain⟨_,_,hc⟩:=World.cells?_some h1;refine⟨y,fun j hj=> ?_⟩;have g:=hc j hj;rw[Addr.add_add]at g;exact g)
  exact⟨some a,m,l,by rw[hlen];exact e,hg,.inr ⟨_,_,hd,by simp[hlen]⟩⟩
set_option maxRecDepth 100000 in
theorem open_sub {base:Nat}{v:Value}{d:DataW H}{p:List MemPlace}(hv:Value.okWide Tryz.prog W .any base 25 v)(h:DataW.Trod enc Tryz.prog W 0 (fun _=>true) true 25 v d p):∃s,v=sbV s:=by
 obtain⟨cs,rfl,hsz⟩:=okWide_struct Tryz.underlying25 hv;obtain⟨l⟩:=cs;obtain⟨fuel,hf⟩:=h;obtain⟨s,e⟩:=sub_of_trod (show DataW.trod enc Tryz.prog W 0 (fun _=>true) true fuel 25 l=_ by simpa [Value.cells]using hf);exact⟨s,by rw[e];rfl⟩
end
end Go.Proofs.YtoadlafdeoklbaaGreatDoor
