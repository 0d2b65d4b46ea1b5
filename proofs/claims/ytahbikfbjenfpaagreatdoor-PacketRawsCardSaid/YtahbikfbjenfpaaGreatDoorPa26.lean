/- Package packet: things are read till nothing is left. -/
import Derived.Test.YtahbikfbjenfpaaGreatDoorPa24
import Derived.Test.YtahbikfbjenfpaaGreatDoorPa20

namespace Go.Proofs.YtahbikfbjenfpaaGreatDoor
open Go.RowKit

/-- How many bytes a reader has left. -/
def rdLen (w:World)(r:Nat):Nat:=match w.cell? ⟨r,0,none⟩with
 | some (.slice _ n _)=>n
 | _=>0
theorem Rd.rdLen {w:World}{base r:Nat}{l:List UInt8}(h:Rd w base r l):Go.Proofs.YtahbikfbjenfpaaGreatDoor.rdLen w r=l.length:=by
 obtain⟨A,c,h1,_⟩:=h;have e1:=h1.cell 0;simp only[zga,zgz]at e1;unfold Go.Proofs.YtahbikfbjenfpaaGreatDoor.rdLen;rw[e1]
theorem Rd.lt {w:World}{base r:Nat}{l:List UInt8}(h:Rd w base r l):r < w.heap.size:=by
 obtain⟨x,h1⟩:=h.row;exact h1.lt
theorem OwnN.low {α:Type}{w:World}{B B' :Nat}{e:TypeId}{k:Nat}{f:α→List Value}{v:Value}{l:List α}(h:OwnN w B e k f v l)(hB:B' ≤B):OwnN w B' e k f v l:=by
 obtain⟨h1,h2⟩:=h;refine⟨h1, ?_⟩
 rcases h2 with h2 | ⟨g,cap,cur,e1,e2,h3⟩
 ·exact .inl h2
 ·exact .inr ⟨g,cap,cur,e1,Nat.le_trans hB e2,h3⟩
/-- Blocks behind the reader are none of its. -/
theorem Rd.far {w w' :World}{base r:Nat}{l:List UInt8}{S:List Nat}(h:Rd w base r l)(hk:Keeps w w' S)(hS:∀x∈S,r < x):Rd w' base r l:=by
 obtain⟨A,c,h1,h2,h3,h4,h5,h6,h7⟩:=h;refine⟨A,c,h1.keep hk (fun hm=>by have:=hS _ hm;omega),h2,h3,h4,h5, ?_,h7⟩;exact(h6.keep' hk (Nat.le_refl _) (fun b o e hm=>by have:=hS _ hm;have:=(h7 _ e).2;simp at this;omega)).mono hk.size
section
variable {α:Type} {rd:List UInt8→Option (α×List UInt8)} {t u:List UInt8} {a:α} {d:List α} {X:Option (List α)}
theorem rdAll_go (hr:∀l a r,rd l=some (a,r)→r.length < l.length)(ht:t≠ [])(e:rd t=some (a,u))(h:X=(rdAll rd t.length t).map (d++ ·)):X=(rdAll rd u.length u).map ((d++ [a])++ ·):=by
 have hu:=hr _ _ _ e;obtain⟨f,hf⟩:∃f,t.length=f+1:=⟨t.length - 1,by omega⟩;rw[h,hf,rdAll_step ht (by omega) e,rdAll_more hr f u.length u (by omega) (Nat.le_refl _)]
 cases rdAll rd u.length u with
 | none=>rfl
 | some az=>simp
theorem rdAll_stop (ht:t≠ [])(e:rd t=none)(h:X=(rdAll rd t.length t).map (d++ ·)):X=none:=by
 rw[h,rdAll_none ht e];rfl
end
theorem elemWantP:ElemN Tryz.prog 25 50 2:=elemN_of (bytes:=24) (z:= .agg #[.string ⟨#[]⟩,.int .i64 0]) (by kernel_rfl) (by kernel_rfl) (by decide) rfl
theorem elemIntP:ElemN Tryz.prog 26 3 1:=elemN_of (bytes:=8) (z:= .int .i64 0) (by kernel_rfl) (by kernel_rfl) (by decide) rfl
theorem elemTxtP:ElemN Tryz.prog 27 9 1:=elemN_of (bytes:=16) (z:= .string ⟨#[]⟩) (by kernel_rfl) (by kernel_rfl) (by decide) rfl
/-- What reading all does. -/
def AllPost {α:Type}(w:World)(base r:Nat)(e:TypeId)(k:Nat)(f:α→List Value)(o:Option (List α))(en:Ending)(w' :World):Prop:=Keeps w w' [r]∧match o with
 | some az=>∃v,en= .returned v∧OwnN w' w.heap.size e k f v az∧Rd w' base r []
 | none=>en= .panicked [{v:= .iface 67 (.agg #[]),recovered:=false}]
set_option maxRecDepth 100000 in
set_option maxHeartbeats 2000000 in
theorem allW_any (w:World)(base r bx:Nat)(l:List UInt8)(h:Rd w base r l)(hl:l.length≤100000)
  (HT:∀W t,Keeps w W [r]→Rd W base r t→Calls Tryz.prog 70 #[.pointer (some ⟨bx,0,none⟩)] W (PvRd W base r ((rdWant t).map fun x=>(.agg #[.string ⟨x.1.1.toArray⟩,.int .i64 x.1.2],x.2)))):
  Calls Tryz.prog 69 #[.agg #[.pointer (some ⟨r,0,none⟩)],.func (.func 70) #[] #[.pointer (some ⟨bx,0,none⟩)]] w (AllPost w base r 50 2 wantC (rdAll rdWant l.length l)):=by
 have HT:=zh HT;have HBX:=zh (show bx=bx from rfl);obtain⟨W0,hW0⟩:∃W0,w.alloc (.cells #[.pointer (some ⟨r,0,none⟩)] 74)=W0:=⟨_,rfl⟩;have k0:Keeps w W0 []:=by rw[←hW0];exact Keeps.alloc _ _
 have HB:=zh (show Row W0 w.heap.size 74 #[.pointer (some ⟨r,0,none⟩)]by rw[←hW0];exact Row.new _ _ _);have HK0:=zh k0;have HR0:=zh (h.keep k0 (by simp));have HRL:=zh h.lt;have HX:=zh (show rdAll rdWant l.length l=(rdAll rdWant l.length l).map ([]++ ·)by cases rdAll rdWant l.length l <;> rfl);obtain⟨X,hX⟩:∃X,rdAll rdWant l.length l=X:=⟨_,rfl⟩;rw[hX];have HX:=zh (show X=(rdAll rdWant l.length l).map ([]++ ·)by rw[←hX];exact HX.out);clear k0 h hX
 go_enter Tryz.func69,Tryz.ntmps69
 go_wp2_with fail
 clear hW0
 go_loopw [5] (fun v wr=>∃(d:List (List UInt8×Int)) (t:List UInt8),Hid ((OwnN wr W0.heap.size 50 2 wantC v d∧Rd wr base r t)∧Keeps W0 wr [r]∧X=(rdAll rdWant t.length t).map (d++ ·))∧d.length+t.length≤l.length) (fun _ wr=>rdLen wr r)
 case atStart=>exact⟨[],l,zh ⟨⟨OwnN.nil _ _ _ _ _,HR0.out⟩,Keeps.refl _ _,HX.out⟩,by simp⟩
 case round=>
  obtain⟨d,t,HJ,hdt⟩:=hrel;have c0:=(HB.out.keep HJ.out.2.1 (by have:=HRL.out;simp;omega)).cell 0;simp only[zga,zgz]at c0;obtain⟨A,c,rfl⟩:=HJ.out.1.1.slice
  go_wp2_with fail
  refine(rdLeft_any _ _ _ _ HJ.out.1.2).mono ?_;rintro e w2 ⟨rfl,rfl⟩
  by_cases ht:t= []
  ·subst ht
   have HE:=zh (show X=some d by
    rw[HJ.out.2.2];simp[rdAll])
   go_wp2_with fail
   go_ret;refine⟨(HK0.out.weaken (T:= [r]) (by simp)).trans HJ.out.2.1 (fun _ hx _=>hx), ?_⟩;rw[HE.out];exact⟨_,rfl,HJ.out.1.1.low HK0.out.size,HJ.out.1.2⟩
  ·have hgt:0 < t.length:=List.length_pos_iff.2 ht
   have HTT:=zh (HT.out wr t ((HK0.out.weaken (T:= [r]) (by simp)).trans HJ.out.2.1 (fun _ hx _=>hx)) HJ.out.1.2)
   rcases hr:rdWant t with _ | ⟨a,u⟩
   ·have HE:=zh (rdAll_stop ht hr HJ.out.2.2)
    rw[hr]at HTT;clear hr ht
    go_wp2_with fail
    refine HTT.out.mono ?_;rintro e w3 ⟨hk3,rfl⟩;have HK3:=zh ((HK0.out.weaken (T:= [r]) (by simp)).trans (HJ.out.2.1.trans hk3 (fun _ hx _=>hx)) (fun _ hx _=>hx));clear hk3;refine⟨rfl,HK3.out, ?_⟩;rw[HE.out]
   ·have HG:=zh (rdAll_go (fun l a r h=>rdWant_len h) ht hr HJ.out.2.2)
    have hlu:=rdWant_len hr;rw[hr]at HTT;clear hr ht
    go_wp2_with fail
    refine HTT.out.mono ?_;rintro e w3 ⟨hk3,rfl,hrd⟩;have hs3:=hk3.size;have HA:=zh (And.intro (HJ.out.1.1.keep hk3 (fun x hx=> .inl (by have:=HRL.out;have:=HK0.out.size;simp at hx;omega))) (And.intro hrd (HJ.out.2.1.trans hk3 (fun _ hx _=>hx))));obtain⟨x,hx⟩:∃x,a=x:=⟨_,rfl⟩;subst hx;clear hk3 hrd c0;obtain⟨Wb,hWb⟩:∃Wb,w3.alloc (.cells #[.string ⟨a.1.toArray⟩,.int .i64 a.2] 50)=Wb:=⟨_,rfl⟩;have kb:Keeps w3 Wb []:=by rw[←hWb];exact Keeps.alloc _ _
    have HLa:=zh (show Lies Wb Wb.heap.size (some ⟨w3.heap.size,0,none⟩) (([a]:List (List UInt8×Int)).flatMap wantC)from lies_of_row (cs:= #[.string ⟨a.1.toArray⟩,.int .i64 a.2]) (by rw[←hWb];exact Row.new _ _ _) rfl);have HA2:=zh (And.intro (HA.out.1.keeps kb) (And.intro (HA.out.2.1.keep kb (by simp)) (HA.out.2.2.then_ kb)));have hbs:W0.heap.size≤Wb.heap.size:=by
     have:=kb.size;have:=HJ.out.2.1.size;omega
    clear kb
    go_wp2_with (at_builtin;refine wpList_append_N elemWantP encWant rfl (.tmp 10) (.tmp 13) rfl W0.heap.size (.slice A d.length c) (some ⟨w3.heap.size,0,none⟩) 1 1 d [a] rfl rfl rfl HA2.out.1 HLa.out (by simp;omega) hbs ?_;intro A7 c7 w7 l7 hl7 hlen7 ho7 hk7 hb7;refine Hid.out ?_)
    refine zh ?_;have hfar:∀g∈(Value.slice A d.length c).ownBlock.toList,W0.heap.size≤g∧∃cs,Row Wb g 50 cs:=HA2.out.1.rows;have HR7:=zh (HA2.out.2.1.far hk7 (fun x hx=>by have:=(hfar x hx).1;have:=HRL.out;have:=HK0.out.size;omega));have HK7:=zh (HA2.out.2.2.trans hk7 (fun x hx hlt=>absurd (hfar x hx).1 (by omega)));have HO7:=zh ho7;have HL7:=zh hl7.out;clear ho7 hk7 hb7 hfar hWb hl7
    go_wp2_with fail
    refine⟨⟨l7,u,zh ⟨⟨HO7.out,HR7.out⟩,HK7.out,by rw[HL7.out];exact HG.out⟩,by simp at hlen7;omega⟩, ?_⟩;rw[HR7.out.rdLen,HJ.out.1.2.rdLen];exact hlu
set_option maxRecDepth 100000 in
set_option maxHeartbeats 2000000 in
theorem allC_any (w:World)(base r bx:Nat)(l:List UInt8)(h:Rd w base r l)(hl:l.length≤100000)
  (HT:∀W t,Keeps w W [r]→Rd W base r t→Calls Tryz.prog 79 #[.pointer (some ⟨bx,0,none⟩)] W (PvRd W base r ((rdCode t).map fun x=>(.int .i64 x.1,x.2)))):
  Calls Tryz.prog 78 #[.agg #[.pointer (some ⟨r,0,none⟩)],.func (.func 79) #[] #[.pointer (some ⟨bx,0,none⟩)]] w (AllPost w base r 3 1 intC (rdAll rdCode l.length l)):=by
 have HT:=zh HT;have HBX:=zh (show bx=bx from rfl);obtain⟨W0,hW0⟩:∃W0,w.alloc (.cells #[.pointer (some ⟨r,0,none⟩)] 74)=W0:=⟨_,rfl⟩;have k0:Keeps w W0 []:=by rw[←hW0];exact Keeps.alloc _ _
 have HB:=zh (show Row W0 w.heap.size 74 #[.pointer (some ⟨r,0,none⟩)]by rw[←hW0];exact Row.new _ _ _);have HK0:=zh k0;have HR0:=zh (h.keep k0 (by simp));have HRL:=zh h.lt;have HX:=zh (show rdAll rdCode l.length l=(rdAll rdCode l.length l).map ([]++ ·)by cases rdAll rdCode l.length l <;> rfl);obtain⟨X,hX⟩:∃X,rdAll rdCode l.length l=X:=⟨_,rfl⟩;rw[hX];have HX:=zh (show X=(rdAll rdCode l.length l).map ([]++ ·)by rw[←hX];exact HX.out);clear k0 h hX
 go_enter Tryz.func78,Tryz.ntmps78
 go_wp2_with fail
 clear hW0
 go_loopw [5] (fun v wr=>∃(d:List Int) (t:List UInt8),Hid ((OwnN wr W0.heap.size 3 1 intC v d∧Rd wr base r t)∧Keeps W0 wr [r]∧X=(rdAll rdCode t.length t).map (d++ ·))∧d.length+t.length≤l.length) (fun _ wr=>rdLen wr r)
 case atStart=>exact⟨[],l,zh ⟨⟨OwnN.nil _ _ _ _ _,HR0.out⟩,Keeps.refl _ _,HX.out⟩,by simp⟩
 case round=>
  obtain⟨d,t,HJ,hdt⟩:=hrel;have c0:=(HB.out.keep HJ.out.2.1 (by have:=HRL.out;simp;omega)).cell 0;simp only[zga,zgz]at c0;obtain⟨A,c,rfl⟩:=HJ.out.1.1.slice
  go_wp2_with fail
  refine(rdLeft_any _ _ _ _ HJ.out.1.2).mono ?_;rintro e w2 ⟨rfl,rfl⟩
  by_cases ht:t= []
  ·subst ht
   have HE:=zh (show X=some d by
    rw[HJ.out.2.2];simp[rdAll])
   go_wp2_with fail
   go_ret;refine⟨(HK0.out.weaken (T:= [r]) (by simp)).trans HJ.out.2.1 (fun _ hx _=>hx), ?_⟩;rw[HE.out];exact⟨_,rfl,HJ.out.1.1.low HK0.out.size,HJ.out.1.2⟩
  ·have hgt:0 < t.length:=List.length_pos_iff.2 ht
   have HTT:=zh (HT.out wr t ((HK0.out.weaken (T:= [r]) (by simp)).trans HJ.out.2.1 (fun _ hx _=>hx)) HJ.out.1.2)
   rcases hr:rdCode t with _ | ⟨a,u⟩
   ·have HE:=zh (rdAll_stop ht hr HJ.out.2.2)
    rw[hr]at HTT;clear hr ht
    go_wp2_with fail
    refine HTT.out.mono ?_;rintro e w3 ⟨hk3,rfl⟩;have HK3:=zh ((HK0.out.weaken (T:= [r]) (by simp)).trans (HJ.out.2.1.trans hk3 (fun _ hx _=>hx)) (fun _ hx _=>hx));clear hk3;refine⟨rfl,HK3.out, ?_⟩;rw[HE.out]
   ·have HG:=zh (rdAll_go (fun l a r h=>rdCode_len h) ht hr HJ.out.2.2)
    have hlu:=rdCode_len hr;rw[hr]at HTT;clear hr ht
    go_wp2_with fail
    refine HTT.out.mono ?_;rintro e w3 ⟨hk3,rfl,hrd⟩;have hs3:=hk3.size;have HA:=zh (And.intro (HJ.out.1.1.keep hk3 (fun x hx=> .inl (by have:=HRL.out;have:=HK0.out.size;simp at hx;omega))) (And.intro hrd (HJ.out.2.1.trans hk3 (fun _ hx _=>hx))));obtain⟨x,hx⟩:∃x,a=x:=⟨_,rfl⟩;subst hx;clear hk3 hrd c0;obtain⟨Wb,hWb⟩:∃Wb,w3.alloc (.cells #[.int .i64 a] 3)=Wb:=⟨_,rfl⟩;have kb:Keeps w3 Wb []:=by rw[←hWb];exact Keeps.alloc _ _
    have HLa:=zh (show Lies Wb Wb.heap.size (some ⟨w3.heap.size,0,none⟩) (([a]:List Int).flatMap intC)from lies_of_row (cs:= #[.int .i64 a]) (by rw[←hWb];exact Row.new _ _ _) rfl);have HA2:=zh (And.intro (HA.out.1.keeps kb) (And.intro (HA.out.2.1.keep kb (by simp)) (HA.out.2.2.then_ kb)));have hbs:W0.heap.size≤Wb.heap.size:=by
     have:=kb.size;have:=HJ.out.2.1.size;omega
    clear kb
    go_wp2_with (at_builtin;refine wpList_append_N elemIntP encIntC rfl (.tmp 10) (.tmp 13) rfl W0.heap.size (.slice A d.length c) (some ⟨w3.heap.size,0,none⟩) 1 1 d [a] rfl rfl rfl HA2.out.1 HLa.out (by simp;omega) hbs ?_;intro A7 c7 w7 l7 hl7 hlen7 ho7 hk7 hb7;refine Hid.out ?_)
    refine zh ?_;have hfar:∀g∈(Value.slice A d.length c).ownBlock.toList,W0.heap.size≤g∧∃cs,Row Wb g 3 cs:=HA2.out.1.rows;have HR7:=zh (HA2.out.2.1.far hk7 (fun x hx=>by have:=(hfar x hx).1;have:=HRL.out;have:=HK0.out.size;omega));have HK7:=zh (HA2.out.2.2.trans hk7 (fun x hx hlt=>absurd (hfar x hx).1 (by omega)));have HO7:=zh ho7;have HL7:=zh hl7.out;clear ho7 hk7 hb7 hfar hWb hl7
    go_wp2_with fail
    refine⟨⟨l7,u,zh ⟨⟨HO7.out,HR7.out⟩,HK7.out,by rw[HL7.out];exact HG.out⟩,by simp at hlen7;omega⟩, ?_⟩;rw[HR7.out.rdLen,HJ.out.1.2.rdLen];exact hlu
set_option maxRecDepth 100000 in
set_option maxHeartbeats 2000000 in
theorem allF_any (w:World)(base r bx:Nat)(l:List UInt8)(h:Rd w base r l)(hl:l.length≤100000)
  (HT:∀W t,Keeps w W [r]→Rd W base r t→Calls Tryz.prog 71 #[.agg #[.pointer (some ⟨r,0,none⟩)]] W (PvRd W base r ((rdTx t).map fun x=>(.string ⟨x.1.toArray⟩,x.2)))):
  Calls Tryz.prog 85 #[.agg #[.pointer (some ⟨r,0,none⟩)],.func (.func 71) #[.agg #[.pointer (some ⟨r,0,none⟩)]] #[]] w (AllPost w base r 9 1 txtV (rdAll rdTx l.length l)):=by
 have HT:=zh HT;have HBX:=zh (show bx=bx from rfl);obtain⟨W0,hW0⟩:∃W0,w.alloc (.cells #[.pointer (some ⟨r,0,none⟩)] 74)=W0:=⟨_,rfl⟩;have k0:Keeps w W0 []:=by rw[←hW0];exact Keeps.alloc _ _
 have HB:=zh (show Row W0 w.heap.size 74 #[.pointer (some ⟨r,0,none⟩)]by rw[←hW0];exact Row.new _ _ _);have HK0:=zh k0;have HR0:=zh (h.keep k0 (by simp));have HRL:=zh h.lt;have HX:=zh (show rdAll rdTx l.length l=(rdAll rdTx l.length l).map ([]++ ·)by cases rdAll rdTx l.length l <;> rfl);obtain⟨X,hX⟩:∃X,rdAll rdTx l.length l=X:=⟨_,rfl⟩;rw[hX];have HX:=zh (show X=(rdAll rdTx l.length l).map ([]++ ·)by rw[←hX];exact HX.out);clear k0 h hX
 go_enter Tryz.func85,Tryz.ntmps85
 go_wp2_with fail
 clear hW0
 go_loopw [5] (fun v wr=>∃(d:List (List UInt8)) (t:List UInt8),Hid ((OwnN wr W0.heap.size 9 1 txtV v d∧Rd wr base r t)∧Keeps W0 wr [r]∧X=(rdAll rdTx t.length t).map (d++ ·))∧d.length+t.length≤l.length) (fun _ wr=>rdLen wr r)
 case atStart=>exact⟨[],l,zh ⟨⟨OwnN.nil _ _ _ _ _,HR0.out⟩,Keeps.refl _ _,HX.out⟩,by simp⟩
 case round=>
  obtain⟨d,t,HJ,hdt⟩:=hrel;have c0:=(HB.out.keep HJ.out.2.1 (by have:=HRL.out;simp;omega)).cell 0;simp only[zga,zgz]at c0;obtain⟨A,c,rfl⟩:=HJ.out.1.1.slice
  go_wp2_with fail
  refine(rdLeft_any _ _ _ _ HJ.out.1.2).mono ?_;rintro e w2 ⟨rfl,rfl⟩
  by_cases ht:t= []
  ·subst ht
   have HE:=zh (show X=some d by
    rw[HJ.out.2.2];simp[rdAll])
   go_wp2_with fail
   go_ret;refine⟨(HK0.out.weaken (T:= [r]) (by simp)).trans HJ.out.2.1 (fun _ hx _=>hx), ?_⟩;rw[HE.out];exact⟨_,rfl,HJ.out.1.1.low HK0.out.size,HJ.out.1.2⟩
  ·have hgt:0 < t.length:=List.length_pos_iff.2 ht
   have HTT:=zh (HT.out wr t ((HK0.out.weaken (T:= [r]) (by simp)).trans HJ.out.2.1 (fun _ hx _=>hx)) HJ.out.1.2)
   rcases hr:rdTx t with _ | ⟨a,u⟩
   ·have HE:=zh (rdAll_stop ht hr HJ.out.2.2)
    rw[hr]at HTT;clear hr ht
    go_wp2_with fail
    refine HTT.out.mono ?_;rintro e w3 ⟨hk3,rfl⟩;have HK3:=zh ((HK0.out.weaken (T:= [r]) (by simp)).trans (HJ.out.2.1.trans hk3 (fun _ hx _=>hx)) (fun _ hx _=>hx));clear hk3;refine⟨rfl,HK3.out, ?_⟩;rw[HE.out]
   ·have HG:=zh (rdAll_go (fun l a r h=>rdTx_len h) ht hr HJ.out.2.2)
    have hlu:=rdTx_len hr;rw[hr]at HTT;clear hr ht
    go_wp2_with fail
    refine HTT.out.mono ?_;rintro e w3 ⟨hk3,rfl,hrd⟩;have hs3:=hk3.size;have HA:=zh (And.intro (HJ.out.1.1.keep hk3 (fun x hx=> .inl (by have:=HRL.out;have:=HK0.out.size;simp at hx;omega))) (And.intro hrd (HJ.out.2.1.trans hk3 (fun _ hx _=>hx))));obtain⟨x,hx⟩:∃x,a=x:=⟨_,rfl⟩;subst hx;clear hk3 hrd c0;obtain⟨Wb,hWb⟩:∃Wb,w3.alloc (.cells #[.string ⟨a.toArray⟩] 9)=Wb:=⟨_,rfl⟩;have kb:Keeps w3 Wb []:=by rw[←hWb];exact Keeps.alloc _ _
    have HLa:=zh (show Lies Wb Wb.heap.size (some ⟨w3.heap.size,0,none⟩) (([a]:List (List UInt8)).flatMap txtV)from lies_of_row (cs:= #[.string ⟨a.toArray⟩]) (by rw[←hWb];exact Row.new _ _ _) rfl);have HA2:=zh (And.intro (HA.out.1.keeps kb) (And.intro (HA.out.2.1.keep kb (by simp)) (HA.out.2.2.then_ kb)));have hbs:W0.heap.size≤Wb.heap.size:=by
     have:=kb.size;have:=HJ.out.2.1.size;omega
    clear kb
    go_wp2_with (at_builtin;refine wpList_append_N elemTxtP encTxt rfl (.tmp 10) (.tmp 13) rfl W0.heap.size (.slice A d.length c) (some ⟨w3.heap.size,0,none⟩) 1 1 d [a] rfl rfl rfl HA2.out.1 HLa.out (by simp;omega) hbs ?_;intro A7 c7 w7 l7 hl7 hlen7 ho7 hk7 hb7;refine Hid.out ?_)
    refine zh ?_;have hfar:∀g∈(Value.slice A d.length c).ownBlock.toList,W0.heap.size≤g∧∃cs,Row Wb g 9 cs:=HA2.out.1.rows;have HR7:=zh (HA2.out.2.1.far hk7 (fun x hx=>by have:=(hfar x hx).1;have:=HRL.out;have:=HK0.out.size;omega));have HK7:=zh (HA2.out.2.2.trans hk7 (fun x hx hlt=>absurd (hfar x hx).1 (by omega)));have HO7:=zh ho7;have HL7:=zh hl7.out;clear ho7 hk7 hb7 hfar hWb hl7
    go_wp2_with fail
    refine⟨⟨l7,u,zh ⟨⟨HO7.out,HR7.out⟩,HK7.out,by rw[HL7.out];exact HG.out⟩,by simp at hlen7;omega⟩, ?_⟩;rw[HR7.out.rdLen,HJ.out.1.2.rdLen];exact hlu
end Go.Proofs.YtahbikfbjenfpaaGreatDoor
