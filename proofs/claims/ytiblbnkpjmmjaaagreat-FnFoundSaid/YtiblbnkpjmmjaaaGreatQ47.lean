/- -/
import Derived.Test.YtiblbnkpjmmjaaaGreatQ46
set_option maxRecDepth 100000
set_option maxHeartbeats 16000000
set_option linter.all false
namespace Go.Proofs.YtiblbnkpjmmjaaaGreat
theorem x0q47 {p:Prop} (h:p:=by rw [hwb];simp [go_sem]):p:=h
theorem x1q47 {p:Prop} (h:p:=by rw [HPS.out];exact HO6.out):p:=h
open Go.RowKit
theorem RI.dropE {w:World} {A B:Option Addr} {n k:Nat} {xs:List Int} (h:RI w A n xs) (hk:k=n):RI w B 0 (xs.drop k):=by
 subst hk;rw [List.drop_of_length_le (by rw [h.len];exact Nat.le_refl _)];exact RI.nil _ _
theorem RI.dropP {w:World} {b o n k:Nat} {xs:List Int} (h:RI w (some ⟨b,o,none⟩) n xs) (hk:k≤n):RI w (some ⟨b,o+k,none⟩) (n - k) (xs.drop k):=by
 have h2:=RI.window (m:=n - k) (p:=k) h Zo
 rwa [List.take_of_length_le (by rw [List.length_drop,h.len];exact Nat.le_refl _)] at h2
theorem mq47 {p:Prop} (h:p:=by simp only [intOf];omega):p:=h
theorem z15q47 {p:Prop} (h:p:=by (intro w' hE';(try dsimp only at hE');have y0:=Ext.keep hE' hcxb;go_simp;try with_reducible rfl)):p:=h
theorem c_polysBy {v0:Value} {XA:Option Addr} {N xc:Nat} {ar xs:List Int} {w:World} (h0:RdSig w v0 ar) (h8:ar.length≤8) (h3:∀ n∈ar,0≤n∧n≤3) (hx:RI w XA N xs) (hN:N=offs ar) (hcx:N≤xc∧xc≤9223372036854775807) :
 Calls Tryz.prog 28 #[v0,.slice XA N xc] w fun e w'=>∃ A n c RA rn rc,e=.returned (.tuple #[.slice A n c,.slice RA rn rc])∧OwD w' w.heap.size w'.heap.size A n c (polysOf ar xs)∧Ext w w':=by
 obtain ⟨A0,n0,c0,rfl,ha⟩:=h0;have hn0:=ha.len;have HA:=Zh ha;have HS:=Zh h3;have HX:=Zh hx;have hxl:=hx.len;obtain ⟨i1,hji,hjz,hjs,hjb⟩:=info_parts polys_info';have hN32:N≤32:=by have:=offs_bd h3;omega
 have HNN:=Zh hN;have HCX:=Zh hcx;clear ha h3 hx hN hcx;go_enter Tryz.func28,Tryz.ntmps28;go_wp2_with fail;obtain ⟨wb,hwb⟩:∃ wb,wb=w.alloc (.cells #[.slice A0 n0 c0] 29):=⟨_,rfl⟩;have hs0:wb.cell? ⟨w.heap.size,0,none⟩=some (.slice A0 n0 c0):=x0q47;have hbs:wb.heap.size=w.heap.size+1:=x0q47;have HEwb:=Zh (show Ext w wb by rw [hwb];exact extX);rw [← hwb];clear hwb;go_loopw [1,6,12] (fun nv ov iv wr=>∃ k:Nat,iv=.int .i64 k∧k≤n0∧(∃ NA nn nc,nv=.slice NA nn nc∧Hid (nn+offs (ar.take k)=N∧(nn≤nc∧nc≤9223372036854775807)∧RI wb NA nn (xs.drop (offs (ar.take k)))))∧(∃ A c,ov=.slice A k c∧Hid (OwD wr (w.heap.size+1) wr.heap.size A k c (polysOf (ar.take k) xs)∧∀ b,(Value.slice A k c).ownBlock=some b→b < wr.heap.size))∧Hid (Ext wb wr)) (fun _ _ iv _=>n0 - (intOf iv).toNat)
 case atStart=>exact ⟨0,rfl,Nat.zero_le _,⟨XA,N,xc,rfl,Zh ⟨by simp [offs],HCX.out,by simpa [offs] using RI.ext HX.out HEwb.out⟩⟩,⟨none,0,rfl,Zh ⟨by simpa [polysOf] using OwD.nil wb (w.heap.size+1) wb.heap.size,fun b hb=>by cases hb⟩⟩,Zh (Ext.refl wb)⟩
 case round=>
  obtain ⟨k,rfl,hk,⟨NA,nn,nc,rfl,hNA⟩,⟨A,c,rfl,hO⟩,hE⟩:=hrel;have hr0:=Ext.keep hE.out hs0;have HEr:=Zh (Ext.trans HEwb.out hE.out);by_cases hlt:k < n0
  .obtain ⟨b,o,z,rfl,hz,hczb⟩:=RI.at_ (RI.ext HA.out HEwb.out) hlt;have hcz:=Ext.keep hE.out hczb;have hzb:=HS.out z (List.mem_of_getElem? hz);obtain ⟨m,rfl⟩:=Int.eq_ofNat_of_zero_le hzb.1;have hm3:m≤3:=by omega
   have hki:(k:Int) < (n0:Int):=by omega
   have hk0:(0:Int)≤(k:Int):=by omega
   have hos:=offs_succ hz;have hle:=offs_le ar (k+1);rw [Int.toNat_natCast] at hos;obtain ⟨p,hp⟩:∃ p,offs (ar.take k)=p:=⟨_,rfl⟩;rw [hp] at hos;have hNA1:=hNA.out.1;have hNAc:=hNA.out.2.1;rw [hp] at hNA1;have hNN:=HNN.out;have hnn1:m+1≤nn:=by omega
   have HRN:=Zh (show RI wb NA nn (xs.drop p) from by have:=hNA.out.2.2;rwa [hp] at this);obtain ⟨nb,no,x0,rfl,hx0,hcxb⟩:=RI.at_ HRN.out (show 0 < nn by omega);rw [Nat.add_zero] at hcxb;have hcx0:=Ext.keep hE.out hcxb;have hx0':xs[p]?=some x0:=by rw [List.getElem?_drop,Nat.add_zero] at hx0;exact hx0
   have HPS:=Zh (show polysOf (ar.take (k+1)) xs=polysOf (ar.take k) xs++[⟨x0,(xs.drop (p+1)).take m⟩] from by
    rw [polysOf_succ hz,hp,Int.toNat_natCast]
    congr 3
    rw [List.getD_eq_getElem?_getD,hx0'];rfl)
   have HDR:=Zh (show (xs.drop p).drop 1=xs.drop (p+1) from List.drop_drop);have HDR2:=Zh (show (xs.drop p).drop (m+1)=xs.drop (offs (ar.take (k+1))) from by rw [List.drop_drop,hos]);have HOS:=Zh (show offs (ar.take (k+1))=p+(m+1) from hos);have hbl3:=World.block_lt_of_cell? wr _ hr0;have hnp:nn+p=N:=hNA1;have hk9:k+1≤1000:=by omega
   have hnn0:(0:Int) < (nn:Int):=by omega
   have hnn0n:¬ nn=0:=by omega
   have hwr1:IntKind.i64.wrap 1=1:=by rfl
   clear hz hx0 hx0' hos hle hNN hp hNA hNA1;by_cases hnc:nc=1
   .subst hnc;obtain rfl:nn=1:=by omega
    obtain rfl:m=0:=by omega
    have HPM:=Zh (show (0:Nat)=0 from rfl);have HWN:=Zh (show RI wr (some ⟨nb,no,none⟩) 0 ((xs.drop (p+1)).take 0) from RI.windowE rfl);go_wp2_with fail;refine wp_only (R:=fun (a0:Act) (a8:Act) (w9:World)=>∃ (C:Option Addr) (cd:Nat) (q:Nat) (A6:Option Addr) (c6:Nat),a8=(((((((((((((a0.put (some 16) (.slice A k c)).put (some 17) (.slice (some ⟨nb,no,none⟩) 1 1)).put (some 18) (.pointer (some ⟨nb,no,none⟩))).put (some 19) (.int .i64 x0)).put (some 20) (.slice (some ⟨nb,no,none⟩) 1 1)).put (some 21) (.int .i64 0)).put (some 22) (.int .i64 1)).put (some 23) (.slice (some ⟨nb,no,none⟩) 0 0)).put (some 24) (.slice C 0 cd)).put (some 25) (.agg #[.int .i64 x0,.slice C 0 cd])).put (some 26) (.slice (some ⟨q,0,none⟩) 1 1)).put (some 27) (.slice A6 (k+1) c6)).put (some 6) (.slice A6 (k+1) c6))∧OwD w9 (w.heap.size+1) w9.heap.size A6 (k+1) c6 (polysOf (ar.take k) xs++[⟨x0,(xs.drop (p+1)).take 0⟩])∧Ext wb w9) ?_ (fun a8 w7 hR=>?_)
    .refine wp_region_held_drew (S:=(fun w'=>Ext wb w')) Zk (hE.out.drew) (fun hH=>?_);refine Z3 0 (.slice A k c) 16 hH ?_ ?_
     .exact z15q47
     refine Z3 1 (.slice (some ⟨nb,no,none⟩) 1 1) 17 hH ?_ ?_
     .exact z15q47
     refine Z3 2 (.pointer (some ⟨nb,no,none⟩)) 18 hH ?_ ?_
     .exact z15q47
     refine Z3 3 (.int .i64 x0) 19 hH ?_ ?_
     .exact z15q47
     refine Z3 4 (.slice (some ⟨nb,no,none⟩) 1 1) 20 hH ?_ ?_
     .exact z15q47
     refine Z3 5 (.int .i64 0) 21 hH ?_ ?_
     .exact z15q47
     refine Z3 6 (.int .i64 1) 22 hH ?_ ?_
     .exact z15q47
     refine Z3 7 (.slice (some ⟨nb,no,none⟩) 0 0) 23 hH ?_ ?_
     .exact z15q47
     refine Z4 8 fun K hK=>?_;go_wp2_with fail;(with_reducible refine (c_clone (RI.ext HWN.out (Ext.refl wr).drew)).mono ?_);rintro e w9 ⟨C,cm,cd,rfl,hC,hE9⟩;obtain rfl:0=cm:=by { have h7:=hC.len;have h8:=HWN.out.len;have h9:=HPM.out;omega };have hC9:=hC;have hE99:=Ext.trans (Ext.refl wr).drew hE9
     refine hK.out _ _ (Ext.trans hH hE9) (fun hH9=>?_);clear hK hH;rename _=>hH;try simp only [Act.put,Zl]
     refine Z3 9 (.agg #[.int .i64 x0,.slice C 0 cd]) 25 hH ?_ ?_
     .exact z15q47
     refine Z4 10 fun K hK=>?_;go_wp2_with fail;refine hK.out _ _ (hH.alloc _) (fun hH9=>?_);clear hK hH;rename _=>hH;try simp only [Act.put,Zl]
     refine Z4 11 fun K hK=>?_;refine wp_append_poly (.tmp 16) (.tmp 26) 38 rfl i1 Tryz.underlying38 hji hjz hjs hjb (B:=w.heap.size+1) (top:=wr.heap.size) rfl (hO.out.1.ext hE99) rfl rfl hC9 hk9 (by have:=hE.out.size;omega) hE99.size hO.out.2 (fun A6 c6 w6 hO6 hx6=>?_);have hE6:=hx6 wb (Ext.trans hE.out hE99) Zo;refine hK.out _ _ (hE6) (fun hH9=>?_);clear hK hH;rename _=>hH;try simp only [Act.put,Zl]
     refine Z3 12 (.slice A6 (k+1) c6) 6 hH ?_ ?_
     .exact z15q47
     refine wpAnyH_done Zk ?_ _;exact ⟨C,cd,_,A6,c6,Zr,hO6,hE6⟩
    obtain ⟨C,cd,q,A6,c6,ha,⟨hO6,hE6⟩⟩:=hR;simp only [Act.put,Zl] at ha;subst ha;have HO6:=Zh hO6;have HOB6:=Zh hO6.ob;clear hO6 hr0 hcz hcx0;go_wp2;go_roundw
    case rel=>exact ⟨k+1,by go_num,Zo,⟨_,0,0,rfl,Zh ⟨by rw [HOS.out];have:=HPM.out;omega,Zo,by rw [← HDR2.out];exact RI.dropE HRN.out Zo⟩⟩,⟨A6,c6,rfl,Zh ⟨x1q47,fun b hb=>(HOB6.out b hb).2⟩⟩,Zh hE6⟩
    case measure=>exact mq47
   .obtain ⟨m1,hm1⟩:∃ m1,m1=m+1:=⟨_,rfl⟩;have hw1:IntKind.i64.wrap ((m:Int)+1)=(m1:Int):=by rw [hm1];exact (IntWalk.i64_in _ Zo).trans Zo
    have hi1:1≤m1:=by omega
    have hi2:m1≤nc:=by omega
    have hi3:m1≤nn:=by omega
    have hi1':(1:Int)≤(m1:Int):=by omega
    have hi2':(m1:Int)≤(nc:Int):=by omega
    have HPM:=Zh (show m1 - 1=m by omega);have HM1:=Zh hm1;have HWN:=Zh (show RI wr (some ⟨nb,no+1,none⟩) (m1 - 1) ((xs.drop (p+1)).take m) from by
     rw [HPM.out,← HDR.out];exact RI.window (RI.ext HRN.out hE.out) Zo)
    have hnd:decide (nc=1)=false:=by simpa using hnc
    clear hm1;go_wp2_with fail;refine wp_only (R:=fun (a0:Act) (a8:Act) (w9:World)=>∃ (C:Option Addr) (cd:Nat) (q:Nat) (A6:Option Addr) (c6:Nat),a8=(((((((((((((a0.put (some 16) (.slice A k c)).put (some 17) (.slice (some ⟨nb,no,none⟩) nn nc)).put (some 18) (.pointer (some ⟨nb,no,none⟩))).put (some 19) (.int .i64 x0)).put (some 20) (.slice (some ⟨nb,no,none⟩) nn nc)).put (some 21) (.int .i64 (m:Int))).put (some 22) (.int .i64 (m1:Int))).put (some 23) (.slice (some ⟨nb,no+1,none⟩) (m1 - 1) (nc - 1))).put (some 24) (.slice C m cd)).put (some 25) (.agg #[.int .i64 x0,.slice C m cd])).put (some 26) (.slice (some ⟨q,0,none⟩) 1 1)).put (some 27) (.slice A6 (k+1) c6)).put (some 6) (.slice A6 (k+1) c6))∧OwD w9 (w.heap.size+1) w9.heap.size A6 (k+1) c6 (polysOf (ar.take k) xs++[⟨x0,(xs.drop (p+1)).take m⟩])∧Ext wb w9) ?_ (fun a8 w7 hR=>?_)
    .refine wp_region_held_drew (S:=(fun w'=>Ext wb w')) Zk (hE.out.drew) (fun hH=>?_);refine Z3 0 (.slice A k c) 16 hH ?_ ?_
     .exact z15q47
     refine Z3 1 (.slice (some ⟨nb,no,none⟩) nn nc) 17 hH ?_ ?_
     .exact z15q47
     refine Z3 2 (.pointer (some ⟨nb,no,none⟩)) 18 hH ?_ ?_
     .exact z15q47
     refine Z3 3 (.int .i64 x0) 19 hH ?_ ?_
     .exact z15q47
     refine Z3 4 (.slice (some ⟨nb,no,none⟩) nn nc) 20 hH ?_ ?_
     .exact z15q47
     refine Z3 5 (.int .i64 (m:Int)) 21 hH ?_ ?_
     .exact z15q47
     refine Z3 6 (.int .i64 (m1:Int)) 22 hH ?_ ?_
     .exact z15q47
     refine Z3 7 (.slice (some ⟨nb,no+1,none⟩) (m1 - 1) (nc - 1)) 23 hH ?_ ?_
     .exact z15q47
     refine Z4 8 fun K hK=>?_;go_wp2_with fail;(with_reducible refine (c_clone (RI.ext HWN.out (Ext.refl wr).drew)).mono ?_);rintro e w9 ⟨C,cm,cd,rfl,hC,hE9⟩;obtain rfl:m=cm:=by { have h7:=hC.len;have h8:=HWN.out.len;have h9:=HPM.out;omega };have hC9:=hC;have hE99:=Ext.trans (Ext.refl wr).drew hE9
     refine hK.out _ _ (Ext.trans hH hE9) (fun hH9=>?_);clear hK hH;rename _=>hH;try simp only [Act.put,Zl]
     refine Z3 9 (.agg #[.int .i64 x0,.slice C m cd]) 25 hH ?_ ?_
     .exact z15q47
     refine Z4 10 fun K hK=>?_;go_wp2_with fail;refine hK.out _ _ (hH.alloc _) (fun hH9=>?_);clear hK hH;rename _=>hH;try simp only [Act.put,Zl]
     refine Z4 11 fun K hK=>?_;refine wp_append_poly (.tmp 16) (.tmp 26) 38 rfl i1 Tryz.underlying38 hji hjz hjs hjb (B:=w.heap.size+1) (top:=wr.heap.size) rfl (hO.out.1.ext hE99) rfl rfl hC9 hk9 (by have:=hE.out.size;omega) hE99.size hO.out.2 (fun A6 c6 w6 hO6 hx6=>?_);have hE6:=hx6 wb (Ext.trans hE.out hE99) Zo;refine hK.out _ _ (hE6) (fun hH9=>?_);clear hK hH;rename _=>hH;try simp only [Act.put,Zl]
     refine Z3 12 (.slice A6 (k+1) c6) 6 hH ?_ ?_
     .exact z15q47
     refine wpAnyH_done Zk ?_ _;exact ⟨C,cd,_,A6,c6,Zr,hO6,hE6⟩
    obtain ⟨C,cd,q,A6,c6,ha,⟨hO6,hE6⟩⟩:=hR;simp only [Act.put,Zl] at ha;subst ha;have HO6:=Zh hO6;have HOB6:=Zh hO6.ob;clear hO6 hr0 hcz hcx0;by_cases hnm:nc=m1
    .subst hnm;have hnnm:nn=nc:=by omega
     subst hnnm;go_wp2;go_roundw
     case rel=>exact ⟨k+1,by go_num,Zo,⟨_,0,0,rfl,Zh ⟨by rw [HOS.out];have:=HPM.out;have:=HM1.out;omega,Zo,by rw [← HDR2.out];exact RI.dropE HRN.out (by have:=HM1.out;omega)⟩⟩,⟨A6,c6,rfl,Zh ⟨x1q47,fun b hb=>(HOB6.out b hb).2⟩⟩,Zh hE6⟩
     case measure=>exact mq47
    .have hnmd:decide (nc=m1)=false:=by simpa using hnm
     go_wp2;go_roundw
     case rel=>exact ⟨k+1,by go_num,Zo,⟨_,nn - m1,nc - m1,rfl,Zh ⟨by rw [HOS.out];have:=HPM.out;have:=HM1.out;omega,Zo,by rw [← HDR2.out,← HM1.out];exact RI.dropP HRN.out Zo⟩⟩,⟨A6,c6,rfl,Zh ⟨x1q47,fun b hb=>(HOB6.out b hb).2⟩⟩,Zh hE6⟩
     case measure=>exact mq47
  .obtain rfl:k=n0:=by omega
   have HT:=Zh (show ar.take k=ar from List.take_of_length_le Zo);go_wp2;refine bodyPost_ret (v:=.tuple #[.slice A k c,.slice NA nn nc]) (by simp [results,Tryz.results28,go_sem]) rfl ?_;exact ⟨A,k,c,NA,nn,nc,rfl,by have h:=hO.out.1.lower (B':=w.heap.size) Zo;rwa [HT.out] at h,HEr.out⟩
noncomputable def ipMeas (T:List Int→Prop) (ls hs:List Int) (o:Option (List Int)) (B g n c:Nat) (mv:Value) (w:World):Nat:=match mv with
 | .bool true=>leastOf (fun k=>∃ xs,OwI w B (some ⟨g,0,none⟩) n c xs∧OnWay T ls hs o k xs)+1
 | _=>0
theorem ipMeas_t {T:List Int→Prop} {ls hs:List Int} {o:Option (List Int)} {B g n c:Nat} {w:World}:ipMeas T ls hs o B g n c (.bool true) w=leastOf (fun k=>∃ xs,OwI w B (some ⟨g,0,none⟩) n c xs∧OnWay T ls hs o k xs)+1:=rfl
theorem ipMeas_f {T:List Int→Prop} {ls hs:List Int} {o:Option (List Int)} {B g n c:Nat} {w:World}:ipMeas T ls hs o B g n c (.bool false) w=0:=rfl
theorem low_big {most:Int} (hm:most≤3) (ar:List Int) (n:Nat):(∀ (k:Nat) (h:Int),(List.replicate n most)[k]?=some h→h≤1000000)∧∀ (k:Nat) (l:Int),(lowL ar)[k]?=some l→-1000000≤l:=by
 refine ⟨fun k h hk=>?_,low_ge ar 0⟩;rw [List.getElem?_replicate] at hk;split at hk
 .cases hk;omega
 .cases hk
theorem offs_pos {ar:List Int} (h:0 < ar.length):0 < offs ar:=by
 cases ar with
 | nil=>simp at h
 | cons n ar=>rw [offs];omega
theorem triP_out {ar:List Int} {most:Int} (h:inB most 1 3=false):triP ar most = -1:=by
 unfold triP;rw [if_neg];rintro ⟨_,h1,h2⟩;unfold inB at h;simp at h;omega
theorem c_rulesB {v0 v1:Value} {s:Sy} {ps:List Pl} {g:Bool} {w:World} (hg:polyAll true s ps=g) (h0:RdSyC w v0 s) (h1:RdPs w v1 ps) (hs:SysP s) (hP:PolysP s.ar ps) :
 Calls Tryz.prog 29 #[v0,v1,.bool true] w fun e w'=>e=.returned (.bool g)∧Ext w w':=by subst hg;exact c_polyRules h0 h1 hs hP
theorem z16q47 {p:Prop} (h:p:=by (first | (first | (with_reducible exact RdI.mk (RI.ext (Hid.out (by with_reducible assumption)) extX)) | (with_reducible exact RdI.ext (by with_reducible assumption) extX)) | (with_reducible exact RdSyK.mk (by (first | (with_reducible exact RI.ext (Hid.out (by with_reducible assumption)) extX))) (RR.ext (Hid.out (by with_reducible assumption)) extX)) | (with_reducible exact RdSyK.ext (by with_reducible assumption) extX) | (with_reducible exact RdPs.mk (RP.ext (Hid.out (by with_reducible assumption)) extX)) | (with_reducible exact RdPs.ext (by with_reducible assumption) extX) | (with_reducible exact RdPl.mk (by (first | (with_reducible exact RI.ext (Hid.out (by with_reducible assumption)) extX)))) | (with_reducible exact RdPl.ext (by with_reducible assumption) extX) | (with_reducible exact RdSig.mk (by (first | (with_reducible exact RI.ext (Hid.out (by with_reducible assumption)) extX)))) | (with_reducible exact RdSig.ext (by with_reducible assumption) extX))):p:=h
theorem c_iFirstPolys {v0:Value} {s:Sy} {most:Int} {ps:List Pl} {bb:Bool} {w:World} (hps:fpoV s most=ps) (hbb:(fpoO s most).isSome=bb) (h0:RdSyC w v0 s) :
 Calls Tryz.prog 8 #[v0,.int .i64 most] w (NewFs w ps bb):=by
 obtain ⟨A0,n0,c0,B0,m0,d0,rfl,ha,hb⟩:=h0;have HA:=Zh ha;have HB:=Zh hb;have hn0:=ha.len;obtain ⟨o,ho⟩:∃ o,fpoO s most=o:=⟨_,rfl⟩;have HPS:=Zh (show (o.map (polysOf s.ar)).getD []=ps by rw [← ho];exact hps);have HBB:=Zh (show o.isSome=bb by rw [← ho];exact hbb);have HO:=Zh ho;obtain ⟨tw,htw⟩:∃ t,triW s.ar most=t:=⟨_,rfl⟩;obtain ⟨tp,htp⟩:∃ t,triP s.ar most=t:=⟨_,rfl⟩;have HTP:=Zh htp;have HC:=Zh (show ∀ (v:Value) (w:World),RdSig w v s.ar→Calls Tryz.prog 11 #[v,.int .i64 most] w fun e w'=>e=.returned (.tuple #[.int .i64 tw,.int .i64 tp])∧Ext w w' from fun v w h=>by rw [← htw,← htp];exact c_iTriesFor h);obtain ⟨mo,hmo⟩:∃ b,inB most 1 3=b:=⟨_,rfl⟩;have HMO:=Zh hmo;have HCM:=Zh (show ∀ (w:World),Calls Tryz.prog 20 #[.int .i64 most] w fun e w'=>e=.returned (.bool mo)∧w=w' from fun w=>by rw [← hmo];exact c_mostOk);obtain ⟨i0,hii,hiz,his,hib⟩:=info_parts int64_info;have HNO:=Zh (show o=none→∀ {w':World},Ext w w'→NewFs w ps bb (.returned (.tuple #[.slice none 0 0,.bool false])) w' from fun h w' hE=>by
  have hp0:ps=[]:=by rw [← HPS.out,h];rfl
  have hb0:bb=false:=by rw [← HBB.out,h];rfl
  subst hp0;subst hb0;exact ⟨none,0,0,rfl,OwD.nil _ _ _,hE⟩)
 clear ha hb hps hbb ho htw htp hmo;cases hs:sysOk s with
 | false=>
  have HN:=Zh (show o=none by rw [← HO.out];exact fpoO_no (fun h=>by rw [hs] at h;cases h.1));go_enter Tryz.func8,Tryz.ntmps8;go_wp2_with fail
  (with_reducible refine (c_iSysOkP hs z16q47).mono ?_);rintro e w1 ⟨rfl,hE1⟩;have hz1:=Zs hE1;obtain ⟨hc1,hf1⟩:=bcell hE1;(try have hq1_0:w.heap.size < w1.heap.size:=Zo);go_wp2_with fail;refine bodyPost_ret (v:=.tuple #[.slice none 0 0,.bool false]) (by simp [results,Tryz.results8,go_sem]) rfl ?_;exact HNO.out HN.out extX
 | true=>
  cases mo with
  | false=>
   have HN:=Zh (show o=none by rw [← HO.out];exact fpoO_no (fun h=>by have h1:=triP_out (ar:=s.ar) HMO.out;omega));go_enter Tryz.func8,Tryz.ntmps8;go_wp2_with fail
   (with_reducible refine (c_iSysOkP hs z16q47).mono ?_);rintro e w1 ⟨rfl,hE1⟩;have hz1:=Zs hE1;obtain ⟨hc1,hf1⟩:=bcell hE1;(try have hq1_0:w.heap.size < w1.heap.size:=Zo);go_wp2_with fail
   (with_reducible refine (HCM.out _).mono ?_);rintro e w2 ⟨rfl,rfl⟩;go_wp2_with fail;refine bodyPost_ret (v:=.tuple #[.slice none 0 0,.bool false]) (by simp [results,Tryz.results8,go_sem]) rfl ?_;exact HNO.out HN.out extX
  | true=>
   by_cases htn:tp < 0
   .have HN:=Zh (show o=none by rw [← HO.out];exact fpoO_no (fun h=>by have:=HTP.out;omega));have htd:decide (tp < 0)=true:=by simpa using htn
    go_enter Tryz.func8,Tryz.ntmps8;go_wp2_with fail
    (with_reducible refine (c_iSysOkP hs z16q47).mono ?_);rintro e w1 ⟨rfl,hE1⟩;have hz1:=Zs hE1;obtain ⟨hc1,hf1⟩:=bcell hE1;(try have hq1_0:w.heap.size < w1.heap.size:=Zo);go_wp2_with fail
    (with_reducible refine (HCM.out _).mono ?_);rintro e w2 ⟨rfl,rfl⟩;go_wp2_with fail
    (with_reducible refine (HC.out _ _ z16q47).mono ?_);rintro e w3 ⟨rfl,hE3⟩;have hz3:=Zs hE3;obtain ⟨hc3,hf3⟩:=bcell hE3;go_wp2_with fail;refine bodyPost_ret (v:=.tuple #[.slice none 0 0,.bool false]) (by simp [results,Tryz.results8,go_sem]) rfl ?_;exact HNO.out HN.out extX
   .have htd:decide (tp < 0)=false:=by simpa using htn
    have hm:1≤most∧most≤3:=triP_in (by rw [HTP.out];omega);have hsp:=sysOk_iff.1 hs;have hsg:SigP s.ar:=hsp.1;have h8:s.ar.length≤8:=hsg.2.1;have HS3:=Zh (show ∀ n∈s.ar,0≤n∧n≤3 from fun n hn=>hsg.2.2 n hn);have hof:∀ k,offs (s.ar.take k)≤32:=fun k=>by have:=offs_bd HS3.out;have:=offs_le s.ar k;omega
    have HSP:=Zh hsp;have HSO:=Zh hs;have HW0:=Zh (OnWay.start (T:=TF s) (o:=o) (lowL_btw hm.1 s.ar) (by rw [← HO.out];unfold fpoO;rw [if_pos ⟨hs,by rw [HTP.out];omega⟩]));obtain ⟨N,hN⟩:∃ N,N=offs s.ar:=⟨_,rfl⟩;have hN32:N≤32:=by have:=hof s.ar.length;rw [List.take_length] at this;omega
    have hNpos:0 < N:=by rw [hN];exact offs_pos hsg.1
    rw [← hN] at HW0;have HNN:=Zh hN;have HM:=Zh hm;clear hsp hsg hN;go_enter Tryz.func8,Tryz.ntmps8;go_wp2_with fail
    (with_reducible refine (c_iSysOkP hs z16q47).mono ?_);rintro e w1 ⟨rfl,hE1⟩;have hz1:=Zs hE1;obtain ⟨hc1,hf1⟩:=bcell hE1;(try have hq1_0:w.heap.size < w1.heap.size:=Zo);go_wp2_with fail
    (with_reducible refine (HCM.out _).mono ?_);rintro e w2 ⟨rfl,rfl⟩;go_wp2_with fail
    (with_reducible refine (HC.out _ _ z16q47).mono ?_);rintro e w3 ⟨rfl,hE3⟩;have hz3:=Zs hE3;obtain ⟨hc3,hf3⟩:=bcell hE3;obtain ⟨wb,hwb⟩:∃ wb,wb=w.alloc (.cells #[.slice A0 n0 c0,.slice B0 m0 d0] 32):=⟨_,rfl⟩;have hb1:wb.cell? ⟨w.heap.size,1,none⟩=some (.slice B0 m0 d0):=x0q47;have hb0:wb.cell? ⟨w.heap.size,0,none⟩=some (.slice A0 n0 c0):=x0q47;have HEwb:=Zh (show Ext w wb by rw [hwb];exact extX);have hEb3:Ext wb w3:=by rw [hwb];exact extX
    have HB3:=Zh hEb3;have HE3w:=Zh (Ext.trans HEwb.out hEb3);have k0:=Ext.keep hEb3 hb0;have k1:=Ext.keep hEb3 hb1;clear hwb hE1 hE3 hEb3;go_wp2_with fail;go_loopw [8,36] (fun lv iv wr=>∃ k:Nat,iv=.int .i64 k∧k≤n0∧(∃ A c,lv=.slice A (offs (s.ar.take k)) c∧Hid (OwI wr w3.heap.size A (offs (s.ar.take k)) c (lowL (s.ar.take k))))∧Hid (Ext w3 wr)) (fun _ iv _=>n0 - (intOf iv).toNat)
    case atStart=>exact ⟨0,rfl,Nat.zero_le _,⟨none,0,rfl,Zh (show OwI w3 w3.heap.size none 0 0 [] from ⟨Zo,World.ownsRow_nil _ _ _ _⟩)⟩,Zh (Ext.refl _)⟩
    case round=>
     obtain ⟨k,rfl,hk,⟨LA,lc,rfl,hL⟩,hE⟩:=hrel;have HEr:=Zh (Ext.trans HE3w.out hE.out);have hr0:=Ext.keep hE.out k0;have hr1:=Ext.keep hE.out k1;by_cases hlt:k < n0
     .obtain ⟨b,oo,z,rfl,hz,hcz⟩:=RI.at_ (RI.ext HA.out HEr.out) hlt;have hzb:=HS3.out z (List.mem_of_getElem? hz);obtain ⟨m,rfl⟩:=Int.eq_ofNat_of_zero_le hzb.1;have hm3:m≤3:=by omega
      have HZ:=Zh hz;have hki:(k:Int) < (n0:Int):=by omega
      have hk0:(0:Int)≤(k:Int):=by omega
      have hofk:=hof k;obtain ⟨p,hp⟩:∃ p,p=offs (s.ar.take k):=⟨_,rfl⟩;rw [← hp] at hL hofk ⊢;have HPP:=Zh hp;have hsr:=hE.out.size;have HF:=Zh (OwI.freshP (w:=wr) 0).ri;have hcp:=hL.out.cap;have hob:=hL.out.ob2;clear hz hp;go_wp2_with (at_builtin;go_loud (refine wpList_append_ints rfl (.tmp 40) (.tmp 41) 27 rfl i0 Tryz.underlying27 hii hiz his hib (D:=w3.heap.size) rfl (OwI.alloc hL.out _) rfl (show RI (wr.alloc (.cells #[.int .i64 0] 2)) (some ⟨wr.heap.size,0,none⟩) 1 [0] from HF.out) Zo (by simp only [World.size_alloc];omega) hcp.1 ?_))
      intro A4 c4 w4 hO4 hg4 hat4;have hE4:Ext w3 w4:=Ext.grown (hE.out.alloc _) hg4 (fun b hb=>(hob b hb).1);have HO4:=Zh hO4;clear hO4 hg4 hat4 hob HF hcp;go_wp2_with fail
      (with_reducible refine (c_repeated (n:=m) Zo).mono ?_);rintro e w5 ⟨RA,rn,rc,rfl,hR5,hE5⟩;have hrn:rn=m:=by rw [← hR5.len];simp
      subst hrn;have HR5:=Zh hR5.ri;have HO5:=Zh (HO4.out.ext hE5);have hE35:=Ext.trans hE4 hE5;have hcp:=HO5.out.cap;have hob:=HO5.out.ob2;have hs5:=hE35.size;clear hR5;go_wp2_with (at_builtin;go_loud (refine wpList_append_ints rfl (.tmp 43) (.tmp 45) 27 rfl i0 Tryz.underlying27 hii hiz his hib (D:=w3.heap.size) rfl HO5.out rfl HR5.out Zo hs5 hcp.1 ?_))
      intro A6 c6 w6 hO6 hg6 hat6;have hE6:Ext w3 w6:=Ext.grown hE35 hg6 (fun b hb=>(hob b hb).1);have hlen:offs (s.ar.take (k+1))=p+1+rn:=by rw [offs_succ HZ.out,← HPP.out,Int.toNat_natCast];omega
      have HO6:=Zh (show OwI w6 w3.heap.size A6 (offs (s.ar.take (k+1))) c6 (lowL (s.ar.take (k+1))) from by
       rw [hlen,lowL_succ HZ.out,Int.toNat_natCast];simpa using hO6)
      clear hO6 hg6 hat6 hob hcp;go_wp2;go_roundw
      case rel=>exact ⟨k+1,by go_num,Zo,⟨A6,c6,by rw [hlen],HO6⟩,Zh hE6⟩
      case measure=>exact mq47
     .obtain rfl:k=n0:=by omega
      have HT:=Zh (show s.ar.take k=s.ar from List.take_of_length_le Zo);have HL:=Zh (show OwI wr w3.heap.size LA N lc (lowL s.ar) from by have h:=hL.out;rwa [HT.out,← HNN.out] at h);rw [HT.out,← HNN.out];have hErb:=Ext.trans HB3.out hE.out;have HLR:=Zh HL.out.ri;have HLB:=Zh HL.out.bd;clear hL HT HL;go_wp2_with fail
      (with_reducible refine (c_clone HLR.out).mono ?_);rintro e w4 ⟨XA,xn,xc,rfl,hX4,hE4⟩;have hxn:xn=N:=by have h1:=hX4.len;have h2:=HLR.out.len;omega
      subst hxn;obtain ⟨g,rfl,hgB,hgl⟩:∃ g,XA=some ⟨g,0,none⟩∧wr.heap.size≤g∧g < w4.heap.size:=by
       rcases hX4.form with ⟨_,h0,_⟩ | h
       .omega
       .exact h
      have hcp4:=hX4.cap;have HX4:=Zh hX4;have HL4:=Zh (RI.ext HLR.out hE4);have HEbr:=Zh hErb;obtain ⟨wq,hwq⟩:∃ wq,wq=wr:=⟨_,rfl⟩;rw [← hwq] at HEr HEbr HX4 HLB HLR hgB hE4;have HE4:=Zh hE4;clear hX4 hr0 hr1 k0 k1 hwq hE hErb hE4 HB3 HE3w;go_wp2_with fail;go_loopw [12] (fun mv wr=>∃ more:Bool,mv=.bool more∧Hid ((more=true→∃ k xs,OwI wr wq.heap.size (some ⟨g,0,none⟩) xn xc xs∧OnWay (TF s) (lowL s.ar) (List.replicate xn most) o k xs)∧(more=false→o=none))∧Hid (Ext wq wr)) (fun mv wr=>ipMeas (TF s) (lowL s.ar) (List.replicate xn most) o wq.heap.size g xn xc mv wr)
      case atStart=>exact ⟨true,rfl,Zh ⟨fun _=>⟨_,_,HX4.out,HW0.out⟩,fun h=>by cases h⟩,HE4⟩
      case round=>
       obtain ⟨more,rfl,hI,hEr⟩:=hrel;have hErb:=Ext.trans HEbr.out hEr.out;have HErw:=Zh (Ext.trans HEwb.out hErb);have k0:=Ext.keep hErb hb0;have k1:=Ext.keep hErb hb1;cases more with
       | false=>
        have HN:=Zh (hI.out.2 rfl);go_wp2_with fail;refine bodyPost_ret (v:=.tuple #[.slice none 0 0,.bool false]) (by simp [results,Tryz.results8,go_sem]) rfl ?_;exact HNO.out HN.out HErw.out
       | true=>
        have hex:∃ k,∃ xs,OwI wr wq.heap.size (some ⟨g,0,none⟩) xn xc xs∧OnWay (TF s) (lowL s.ar) (List.replicate xn most) o k xs:=hI.out.1 rfl;obtain ⟨⟨xs,hX,hW⟩,_⟩:=leastOf_spec hex;have HX:=Zh hX;have HW:=Zh hW;have hor:=orients_at HSO.out HM.out (by have:=hW.btw;rwa [HNN.out] at this);have HPP:=Zh hor.1;clear hX hW hex hor;go_wp2_with fail
        (with_reducible refine (c_polysBy (RdSig.mk (RI.ext HA.out HErw.out)) h8 HS3.out HX.out.ri HNN.out hcp4).mono ?_);rintro e w5 ⟨PA,pn,pc,RA,rn,rc,rfl,hP5,hE5⟩;have hE5b:=Ext.trans hErb hE5;have HE5w:=Zh (Ext.trans HErw.out hE5);have HP5:=Zh hP5;have HR5:=Zh (OwQ.rp (OwD.q hP5));have m0':=Ext.keep hE5b hb0;have m1':=Ext.keep hE5b hb1;obtain ⟨gb,hgb⟩:∃ gb,polyAll true s (polysOf s.ar xs)=gb:=⟨_,rfl⟩;have HG:=Zh hgb;clear hP5 k0 k1 hgb;go_wp2_with fail
        (with_reducible refine (c_rulesB HG.out (RdSyK.mk (RI.ext HA.out HE5w.out) (RR.ext HB.out HE5w.out)) (RdPs.mk HR5.out) HSP.out HPP.out).mono ?_);rintro e w6 ⟨rfl,hE6⟩;have HE6:=Zh (Ext.trans hEr.out (Ext.trans hE5 hE6));have HE6w:=Zh (Ext.trans HE5w.out hE6);cases gb with
        | true=>
         have ho:o=some xs:=HW.out.yes HG.out;go_wp2_with fail;refine bodyPost_ret (v:=.tuple #[.slice PA pn pc,.bool true]) (by simp [results,Tryz.results8,go_sem]) rfl ?_;have hp0:ps=polysOf s.ar xs:=by rw [← HPS.out,ho];rfl
         have hb0':bb=true:=by rw [← HBB.out,ho];rfl
         subst hp0;subst hb0';exact ⟨PA,pn,pc,rfl,((HP5.out.ext hE6).mono hE6.size).lower HErw.out.size,HE6w.out⟩
        | false=>
         have hgo:¬ TF s xs:=fun h=>by have h2:polyAll true s (polysOf s.ar xs)=true:=h;rw [HG.out] at h2;cases h2
         rcases hup:up xs (lowL s.ar) (List.replicate xn most) with ⟨ys,b2⟩
         have HUP:=Zh hup;have HNX:=Zh (show (b2=true→∃ m,m < leastOf (fun k=>∃ xs,OwI wr wq.heap.size (some ⟨g,0,none⟩) xn xc xs∧OnWay (TF s) (lowL s.ar) (List.replicate xn most) o k xs)∧OnWay (TF s) (lowL s.ar) (List.replicate xn most) o m ys)∧(b2=false→o=none) from ⟨fun e=>by subst e;exact HW.out.next hgo hup,fun e=>by subst e;exact HW.out.stop hgo hup⟩);have HX6:=Zh (HX.out.ext (Ext.trans hE5 hE6));clear hup m0' m1';go_wp2_with fail
         (with_reducible refine (c_repeated (n:=xn) Zo).mono ?_);rintro e w7 ⟨HA7,hn,hc,rfl,hH7,hE7⟩;have hhn:hn=xn:=by rw [← hH7.len];simp
         subst hhn;have HH7:=Zh hH7.ri;have HHB:=Zh hH7.bd;have HX7:=Zh (HX6.out.ext hE7);have HE7:=Zh (Ext.trans HE6.out hE7);have hg6:g < w6.heap.size:=(HX6.out.bd g 0 none rfl).2;clear hH7;go_wp2_with fail
         (with_reducible refine (c_countUp HUP.out HX7.out (RI.ext HLR.out HE7.out) HH7.out HW.out.btw (fun g1 o1 s1 g' o' s' e e'=>by cases e;have:=(HLB.out _ _ _ e').2;omega) (fun g1 o1 s1 g' o' s' e e'=>by cases e;have:=(HHB.out _ _ _ e').1;omega) (low_big HM.out.2 s.ar hn)).mono ?_);rintro e w8 ⟨rfl,hY8,hA8⟩;have hE8:Ext wq w8:=OnlyA.ext hA8 HE7.out (fun g o s e=>by cases e;exact hgB);have HY8:=Zh hY8;clear hY8 hA8;go_wp2_with fail;go_roundw
         case rel=>exact ⟨b2,rfl,Zh ⟨fun e=>by
          obtain ⟨m,_,hm⟩:=HNX.out.1 e;exact ⟨m,ys,HY8.out,hm⟩,HNX.out.2⟩,Zh hE8⟩
         case measure=>
          rw [ipMeas_t];cases b2 with
          | false=>rw [ipMeas_f];omega
          | true=>
           rw [ipMeas_t];obtain ⟨m,hm1',hm2⟩:=HNX.out.1 rfl;have:=leastOf_le (R:=fun k=>∃ xs,OwI w8 wq.heap.size (some ⟨g,0,none⟩) hn xc xs∧OnWay (TF s) (lowL s.ar) (List.replicate hn most) o k xs) ⟨ys,HY8.out,hm2⟩;omega

