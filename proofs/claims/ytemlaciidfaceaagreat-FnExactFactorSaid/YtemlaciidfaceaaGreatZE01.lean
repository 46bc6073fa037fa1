/-
  Own work: part 6 of the texts that the proof of the given statement leans on.
-/
import Derived.Test.YtemlaciidfaceaaGreatZE00
noncomputable section
namespace Go.Di
theorem zfT {a:List Int} (h:a.length≤1073741824):zaM a=some a:=by
  unfold zaM
  rw[room h]; rfl
theorem zEW {a x y:List Int} {f n:Int} (hx:x.length≤a.length+1) (ha:a.length≤1073741000) :
    zgb a f n x y=some (f,n,x++List.replicate (a.length+1 - x.length) 0,y,()):=by
  unfold zgb
  have key:=za7 zcT (fun i=>(a,f,n,x++List.replicate i 0,y,())) (a.length+1 - x.length) (f,n,x++List.replicate (a.length+1 - x.length) 0,y,()) (fun i hi=>by
    have h1:decide (((x++List.replicate i (0:Int)).length:Int)≤(a.length:Int))=true:=by simp; omega
    simp only[zcT,h1,cond_true,room (show (x++List.replicate i (0:Int)).length+1≤1073741824 by simp; omega),Option.bind_some]
    rw[List.append_assoc,← List.replicate_succ']) (by
    have h1:decide (((x++List.replicate (a.length+1 - x.length) (0:Int)).length:Int)≤(a.length:Int))=false:=by simp; omega
    simp only[zcT,h1,cond_false])
  simpa using key
theorem zMZ (x:List Int) (n:Nat):nv (x++List.replicate n 0)=nv x:=by rw[zkh,zl7]; omega
theorem zx2 {y x0:List Int} {L:Nat} {f V top:Int} (hy:Dig y) (hn:2≤y.length) (htop:y[y.length - 1]? = some top) (ht:1≤top) (hL:L≤1000000000) (N:Nat) (hN:N+y.length=L) (h:RoundI y L V N x0 (List.replicate N 0)) :
    ∃ x out,zga f (y.length:Int) top ((N:Int) - 1) x0 y (List.replicate N 0)=some (f,x,out,())∧RoundI y L V 0 x out:=by
  unfold zga
  obtain ⟨r,h1,x,out,rfl,h2⟩:=zbX (S:=zcc) (fun i z=>∃ x out,z=(f,(y.length:Int),top,((N - i:Nat):Int) - 1,x,y,out,())∧RoundI y L V (N - i) x out) N (fun r=>∃ x out,r=(f,x,out,())∧RoundI y L V 0 x out)
    (fun i hi z hz=>by
      obtain ⟨x,out,rfl,hI⟩:=hz
      left
      have e:((N - i:Nat):Int) - 1=((N - (i+1):Nat):Int):=by omega
      have e2:N - i=(N - (i+1))+1:=by omega
      rw[e2] at hI
      obtain ⟨x',out',q1,q2⟩:=zx1 (f:=f) hy hn htop ht hI (by have:=hI.olen; omega) hL
      rw[e]
      exact ⟨_,q1,x',out',rfl,q2⟩)
    (fun z hz=>by
      obtain ⟨x,out,rfl,hI⟩:=hz
      rw[Nat.sub_self] at *
      exact ⟨_,by simp[zcc],x,out,rfl,hI⟩)
    (x:=(f,(y.length:Int),top,(N:Int) - 1,x0,y,List.replicate N 0,())) ⟨x0,List.replicate N 0,by simp,by simpa using h⟩
  exact ⟨x,out,h1,h2⟩
theorem zre {n:Nat} (h0:0 < n) (h:n < 1000000000):dg n=[(n:Int)]:=by
  rw[zoj (by omega),Nat.mod_eq_of_lt h,Nat.div_eq_of_lt h,zay]
theorem zvs {n:Nat} (h:(dg n).length=1):0 < n∧n < 1000000000∧dg n=[(n:Int)]:=by
  have h0:n≠0:=by rintro rfl; rw[zay] at h; simp at h
  have hlt:(n:Int) < bp 1:=zfR.1 (by omega)
  have hb:bp 1=1000000000:=by decide
  rw[hb] at hlt
  exact ⟨by omega,by omega,zre (by omega) (by omega)⟩
theorem impl_div {m n:Nat} (hm:(dg m).length≤100000000) (hn:(dg n).length≤100000000) (h0:0 < n):zbA (dg m) (dg n)=some (dg (m / n),dg (m % n)):=by
  unfold zbA
  have hcmp:=zvI (zbV m) (zbV n) (by omega)
  rw[zcB,zcB] at hcmp
  rw[hcmp,Option.bind_some,zDN]
  by_cases hlt:m < n
  · have hd:decide ((m:Int) < (n:Int))=true:=by simpa using hlt
    rw[hd,cond_true,zfT (by omega),Option.bind_some,Nat.div_eq_of_lt hlt,Nat.mod_eq_of_lt hlt,zay]
  · have hd : decide ((m:Int) < (n:Int))=false:=by simpa using hlt
    rw[hd,cond_false]
    by_cases h1:(dg n).length=1
    · have hb:(((dg n).length:Int)==1)=true:=by rw[h1]; rfl
      obtain ⟨_,hsm,e⟩:=zvs h1
      rw[hb,cond_true,e,show ((0:Int)=((0:Nat):Int)) from rfl,zeU (x:=(n:Int)) (by rfl),Option.bind_some,zod (by omega) ⟨h0,hsm⟩,Option.bind_some]
    · have hb : (((dg n).length:Int)==1)=false:=by rw[beq_eq_false_iff_ne]; omega
      have hne:dg n≠[]:=fun e=>by have:=zfY.1 e; omega
      have hl2:2≤(dg n).length:=by have:=List.length_pos_iff.2 hne; omega
      have hlast:=zmc hne (by omega)
      -- the top limb of the divisor
      have hbl:(dg n).getLast hne=(dg n)[(dg n).length - 1]'(by omega):=List.getLast_eq_getElem ..
      have hbd:=(zej n).at (show (dg n).length - 1 < (dg n).length by omega)
      have hb0:(dg n)[(dg n).length - 1]'(by omega)≠0:=by
        rw[← hbl]
        intro e
        have:=(zbV n).2
        rw[zp6,List.getLast?_eq_some_getLast hne,e] at this
        exact this rfl
      have hnlow:=(zbV n).low hne
      have hns:=zdk (dg n) (k:=(dg n).length - 1) (by omega)
      rw[zdj (show (dg n).length - 1 < (dg n).length by omega),List.drop_of_length_le (show (dg n).length≤(dg n).length - 1+1 by omega)] at hns
      have hnt:=(zkD (zej n) (show (dg n).length - 1≤(dg n).length by omega)).2
      simp only[nv,Int.mul_zero,Int.add_zero] at hns
      rw[zcB] at hnlow hns
      rw[hb,cond_false,hlast,Option.bind_some,hbl]
      generalize hbt:(dg n)[(dg n).length - 1]'(by omega)=bt at *
      have e1:IntKind.i64.wrap (bt+1)=bt+1:=wrap_i64 (by omega) (by omega)
      have hg:zal (bt+1 != 0)=some ():=by
        have:(bt+1 != 0)=true:=by simp; omega
        rw[this]; rfl
      have ef:IntKind.i64.wrap ((1000000000:Int).tdiv (bt+1))=1000000000 / (bt+1):=by
        rw[Int.tdiv_eq_ediv_of_nonneg (by omega)]
        have h1:0≤1000000000 / (bt+1):=Int.ediv_nonneg (by omega) (by omega)
        have h2:1000000000 / (bt+1)≤1000000000:=Int.ediv_le_self _ (by omega)
        exact wrap_i64 (by omega) (by omega)
      have hf1:1≤1000000000 / (bt+1):=(Int.le_ediv_iff_mul_le (by omega)).2 (by omega)
      have hf2:1000000000 / (bt+1) < 1000000000:=Int.ediv_lt_of_lt_mul (by omega) (by omega)
      have hf3:1000000000 / (bt+1) * (bt+1)≤1000000000:=Int.ediv_mul_le _ (by omega)
      rw[e1,hg,Option.bind_some,ef]
      generalize hF:1000000000 / (bt+1)=F at *
      obtain ⟨f,rfl⟩:∃ f:Nat,F=(f:Int):=⟨F.toNat,by omega⟩
      rw[← zre (n:=f) (by omega) (by omega)]
      have hlf:(dg f).length=1:=by rw[zre (by omega) (by omega)]; rfl
      rw[ziB (by omega) (by omega),Option.bind_some,ziB (by omega) (by omega),Option.bind_some]
      have hp:=zfb ((dg n).length - 1)
      have hbs:bp (dg n).length=1000000000 * bp ((dg n).length - 1):=by
        have:=zel ((dg n).length - 1)
        rwa [show (dg n).length - 1+1=(dg n).length by omega] at this
      -- the length of the divisor stays
      have hyl:(dg (n * f)).length=(dg n).length:=by
        have h1:(dg n).length≤(dg (n * f)).length:=zbL (Nat.le_mul_of_pos_right n (by omega))
        have h2:(dg (n * f)).length≤(dg n).length:=by
          rw[zfR,hbs]
          have h3:(n:Int) * f≤((bp ((dg n).length - 1)) * (bt+1) - 1) * f:=by
            refine Int.mul_le_mul_of_nonneg_right ?_ (by omega)
            have:bp ((dg n).length - 1) * (bt+1)=bp ((dg n).length - 1) * bt+bp ((dg n).length - 1):=by grind
            omega
          have h4:bp ((dg n).length - 1) * ((f:Int) * (bt+1))≤bp ((dg n).length - 1) * 1000000000:=Int.mul_le_mul_of_nonneg_left hf3 (by omega)
          have h5:((n * f:Nat):Int)=(n:Int) * f:=by simp
          have h6:((bp ((dg n).length - 1)) * (bt+1) - 1) * f=bp ((dg n).length - 1) * ((f:Int) * (bt+1)) - f:=by grind
          rw[h5]
          omega
        omega
      have hxl:(dg (m * f)).length≤(dg m).length+1:=by have:=ziA m f; omega
      have hxl':=hxl
      have hmn:(dg n).length≤(dg m).length:=zbL (by omega)
      rw[zEW hxl (by omega),Option.bind_some]
      simp only[]
      rw[hyl]
      have hXl:(dg (m * f)++List.replicate ((dg m).length+1 - (dg (m * f)).length) (0:Int)).length=(dg m).length+1:=by simp; omega
      have hXv:nv (dg (m * f)++List.replicate ((dg m).length+1 - (dg (m * f)).length) (0:Int))=((m * f:Nat):Int):=by rw[zMZ,zcB]
      have hXd:Dig (dg (m * f)++List.replicate ((dg m).length+1 - (dg (m * f)).length) (0:Int)):=(zej _).append (Dig.zeros _)
      have hyd:=zej (n * f)
      have hyv:=zcB (n * f)
      have hyc:=zbV (n * f)
      generalize dg (m * f)++List.replicate ((dg m).length+1 - (dg (m * f)).length) (0:Int)=x at *
      generalize dg (n * f)=y at *
      have e3:IntKind.i64.wrap ((x.length:Int) - ((dg n).length:Int))=(((dg m).length+1 - (dg n).length:Nat):Int):=by rw[hXl,wrap_i64 (by omega) (by omega)]; omega
      have e4:IntKind.i64.wrap (((dg n).length:Int) - 1)=((y.length - 1:Nat):Int):=by rw[wrap_i64 (by omega) (by omega)]; omega
      have htl:y.length - 1 < y.length:=by omega
      have e5:IntKind.i64.wrap ((((dg m).length+1 - (dg n).length:Nat):Int) - 1)=(((dg m).length+1 - (dg n).length:Nat):Int) - 1:=wrap_i64 (by omega) (by omega)
      rw[e3,ziz (by omega),Option.bind_some,e4,zaG htl,Option.bind_some,Int.toNat_natCast,zfU htl,Option.bind_some,e5,Int.toNat_natCast]
      have hyne:y≠[]:=by intro e; rw[e] at hyl; simp at hyl; omega
      have hyt:1≤y[y.length - 1]:=by
        have h1:=hyd.at htl
        have h2:y[y.length - 1]≠0:=by
          rw[← List.getLast_eq_getElem hyne]
          intro e
          have:=hyc.2
          rw[zp6,List.getLast?_eq_some_getLast hyne,e] at this
          exact this rfl
        omega
      have hI : RoundI y ((dg m).length+1) ((m * f:Nat):Int) ((dg m).length+1 - (dg n).length) x (List.replicate ((dg m).length+1 - (dg n).length) 0):=by
        refine ⟨hXl,by simp[hyl]; omega,hXd,Dig.zeros _,fun p h1 h2=>by omega,?_,?_⟩
        · rw [hyv]
          rcases Int.lt_or_le (nv (x.drop ((dg m).length+1 - (dg n).length))) (((n * f:Nat):Int)) with h | h
          · exact h
          · exfalso
            have s1:=zdk x (k:=(dg m).length+1 - (dg n).length) (by omega)
            have s2:=zaP (hXd.take ((dg m).length+1 - (dg n).length))
            rw[hXv] at s1
            have hpk:=zfb ((dg m).length+1 - (dg n).length)
            have s3:bp ((dg m).length+1 - (dg n).length) * ((n * f:Nat):Int)≤((m * f:Nat):Int):=by
              have:=Int.mul_le_mul_of_nonneg_left h (Int.le_of_lt hpk)
              omega
            have s4:(bp ((dg m).length+1 - (dg n).length) * (n:Int)) * f≤(m:Int) * f:=by
              have:((n * f:Nat):Int)=(n:Int) * f:=by simp
              rw[this] at s3
              have:((m * f:Nat):Int)=(m:Int) * f:=by simp
              rw[this] at s3
              rw[Int.mul_assoc]; exact s3
            have s5:=Int.le_of_mul_le_mul_right s4 (by omega)
            have s6:bp ((dg m).length+1 - (dg n).length) * bp ((dg n).length - 1)≤bp ((dg m).length+1 - (dg n).length) * (n:Int):=Int.mul_le_mul_of_nonneg_left hnlow (by omega)
            rw[← zrY,show (dg m).length+1 - (dg n).length+((dg n).length - 1)=(dg m).length by omega] at s6
            have s7:=(zfR (n:=m)).1 (Nat.le_refl _)
            omega
        · rw[hXv,List.drop_of_length_le (by simp),nv]; simp
      have hyl':(((dg n).length:Nat):Int)=(y.length:Int):=by rw[hyl]
      obtain ⟨x1,out,hr,hR⟩:=zx2 (f:=(f:Int)) hyd (by omega) (zfU htl) hyt (by omega) ((dg m).length+1 - (dg n).length) (by omega) hI
      rw[hyl',hr,Option.bind_some]
      simp only[]
      have hv:=hR.val
      have hlt2:=hR.lt
      have hx1l:=hR.xlen
      have hol:=hR.olen
      rw[List.drop_zero] at hlt2
      rw[List.drop_zero,znq,Int.one_mul,hyv] at hv
      rw[hyv] at hlt2
      have hx10:=zaP hR.xd
      have hout0:=zaP hR.od
      rw[zhR (by omega),Option.bind_some,zp9 hR.xd,zhR (by omega)]
      obtain ⟨r,hr'⟩:∃ r:Nat,nv x1=(r:Int):=⟨(nv x1).toNat,by omega⟩
      obtain ⟨q,hq'⟩:∃ q:Nat,nv out=(q:Int):=⟨(nv out).toNat,by omega⟩
      rw[hr',hq'] at hv
      rw[hr'] at hlt2
      have hvN:m * f=r+n * f * q:=by exact_mod_cast hv
      have hltN:r < n * f:=by exact_mod_cast hlt2
      have hq:q=m / n:=by
        have h1:(m * f) / (n * f)=q:=by
          rw[hvN,Nat.add_mul_div_left _ _ (by omega),Nat.div_eq_of_lt hltN,Nat.zero_add]
        rw[← h1,Nat.mul_div_mul_right _ _ (by omega)]
      have hrr:r=(m % n) * f:=by
        have h1:(m * f) % (n * f)=r:=by
          rw[hvN,Nat.add_mul_mod_self_left,Nat.mod_eq_of_lt hltN]
        rw[← h1,Nat.mul_mod_mul_right]
      have hrl:(dg r).length≤1073740000:=by
        have:(dg r).length≤(dg m).length+1:=Nat.le_trans (zbL (show r≤m * f by omega)) hxl'
        omega
      rw[hr',Int.toNat_natCast,zod hrl ⟨by omega,by omega⟩,Option.bind_some,zp9 hR.od,hq',Int.toNat_natCast,Option.bind_some,hq,hrr,Nat.mul_div_cancel _ (by omega)]
end Go.Di
namespace Go.Di
theorem impl_gcd {m n:Nat} (hm:(dg m).length≤100000000) (hn:(dg n).length≤100000000) (h0:0 < m):zdS (dg m) (dg n)=some (dg (Nat.gcd m n)):=by
  unfold zdS zin
  obtain ⟨r, h1,p,q,rfl,hg,hp0,hpl,hq⟩:=zg7 (S:=zbF) (fun x=>∃ p q:Nat,x=(dg p,dg q,())∧Nat.gcd p q=Nat.gcd m n∧(p=0→2≤(dg q).length)∧(dg p).length≤100000000∧(dg q).length≤100000000) (fun x=>(nv x.2.1).toNat)
    (fun r=>∃ p q:Nat,r=(dg p,dg q,())∧Nat.gcd p q=Nat.gcd m n∧0 < p∧(dg p).length≤100000000∧(q=0∨(dg p).length≤1∧(dg q).length=1))
    (fun x hx => by
      obtain ⟨p,q,rfl,hg,hp,hpl,hql⟩:=hx
      have hstep:0 < q→(∃ y,((zbA (dg p) (dg q)).bind fun (r0,r1)=>(some (Sum.inl (dg q,r1,())):Option ((List Int × List Int × Unit) ⊕ (List Int × List Int × Unit))))=some (.inl y)∧(∃ p' q':Nat,y=(dg p',dg q',())∧Nat.gcd p' q'=Nat.gcd m n∧(p'=0→2≤(dg q').length)∧(dg p').length≤100000000∧(dg q').length≤100000000)∧(nv y.2.1).toNat < (nv (dg q)).toNat):=by
        intro hq0
        rw[impl_div hpl hql hq0]
        refine ⟨_,rfl,⟨q,p % q,rfl,?_,fun e=>by omega,hql,?_⟩,?_⟩
        · rw[← hg,Nat.gcd_comm p q,Nat.gcd_rec q p,Nat.gcd_comm]
        · exact Nat.le_trans (zbL (Nat.mod_le p q)) hpl
        · simp only[zcB,Int.toNat_natCast]; exact Nat.mod_lt _ hq0
      by_cases hb:1 < (dg q).length
      · left
        have hq0:0 < q:=by
          rcases Nat.eq_zero_or_pos q with h | h
          · subst h; rw[zay] at hb; simp at hb
          · exact h
        have e1:decide (((dg q).length:Int) > 1)=true:=by simp only[decide_eq_true_eq]; omega
        simp only[zbF,e1,cond_true]
        exact hstep hq0
      · have e1:decide (((dg q).length:Int) > 1)=false:=by simp only[decide_eq_false_iff_not]; omega
        have hpos:0 < p:=by
          rcases Nat.eq_zero_or_pos p with h | h
          · have:=hp h; omega
          · exact h
        by_cases ha:1 < (dg p).length
        · have e2:decide (((dg p).length:Int) > 1)=true:=by simp only[decide_eq_true_eq]; omega
          by_cases hq0:q=0
          · right
            subst hq0
            refine ⟨(dg p,dg 0,()),?_,p,0,rfl,hg,hpos,hpl,.inl rfl⟩
            simp only[zbF,e1,e2,cond_true,cond_false]
            simp[zay]
          · left
            have hqn:dg q≠[]:=fun e=>hq0 (zfY.1 e)
            have e3:decide (((dg q).length:Int) > 0)=true:=by have:=List.length_pos_iff.2 hqn; simp only[decide_eq_true_eq]; omega
            simp only[zbF,e1,e2,e3,cond_true,cond_false]
            exact hstep (by omega)
        · right
          have e2:decide (((dg p).length:Int) > 1)=false:=by simp only[decide_eq_false_iff_not]; omega
          refine ⟨(dg p,dg q,()),?_,p,q,rfl,hg,hpos,hpl,?_⟩
          · simp only[zbF,e1,e2,cond_false]
          · by_cases hq0:q=0
            · exact .inl hq0
            · right
              have hqn:dg q≠[]:=fun e=>hq0 (zfY.1 e)
              have:=List.length_pos_iff.2 hqn
              exact ⟨by omega,by omega⟩)
    (x:=(dg m,dg n,())) ⟨m,n,rfl,rfl,fun e=>by omega,hm,hn⟩
  rw[h1,Option.bind_some]
  simp only[]
  rcases hq with rfl | ⟨hp1,hq1⟩
  · have:(((dg 0).length:Int)==0)=true:=by rw[zay]; rfl
    rw[this,cond_true,zfT (by omega),Option.bind_some,← hg,Nat.gcd_zero_right]
  · have hpn:dg p≠[]:=fun e=>by have:=zfY.1 e; omega
    have hpl1:(dg p).length=1:=by have:=List.length_pos_iff.2 hpn; omega
    obtain ⟨p0,pB,pe⟩:=zvs hpl1
    obtain ⟨q0,qB,qe⟩:=zvs hq1
    have:(((dg q).length:Int)==0)=false:=by rw[hq1]; rfl
    rw[this,cond_false,pe,qe,show ((0:Int)=((0:Nat):Int)) from rfl,zeU (x:=(p:Int)) (by rfl),Option.bind_some,zeU (x:=(q:Int)) (by rfl),Option.bind_some]
    unfold zim
    rw [zna (S:=zcP) (fun x y h=>by
      have h1:((y:Int) != 0)=true:=by simp; omega
      simp only[zcP,h1,cond_true,zjY,Option.bind_some,zvc]) (fun x=>by simp[zcP]) q p,Option.bind_some]
    have hgp:Nat.gcd p q≤p:=Nat.gcd_le_left q p0
    have hgpos:0 < Nat.gcd p q:=Nat.gcd_pos_of_pos_left q p0
    simp only[]
    rw[← hg,zre hgpos (by omega)]
end Go.Di
namespace Go.Di
def bg (z:Int):Bg:=⟨decide (z < 0),dg z.natAbs⟩
def sg (neg:Bool) (m:Nat):Int:=cond neg (-(m:Int)) m
theorem zkb (neg:Bool) (m:Nat):(sg neg m).natAbs=m:=by cases neg<;>simp[sg]
theorem zvg {neg:Bool} {m:Nat} (h:m≠0):decide (sg neg m < 0)=neg:=by
  cases neg with
  | false=>rw[decide_eq_false_iff_not]; simp only[sg,cond_false]; omega
  | true=>rw[decide_eq_true_eq]; simp only[sg,cond_true]; omega
theorem zEd {neg:Bool} {m:Nat} (h:m≠0):bg (sg neg m)=⟨neg,dg m⟩:=by unfold bg; rw[zkb,zvg h]
theorem zp0:bg 0=⟨false,[]⟩:=by unfold bg; rw[show (0:Int).natAbs=0 from rfl,zay]; rfl
theorem zoN (neg:Bool):sg neg 0=0:=by cases neg<;>rfl
theorem zAk (z:Int):sg (decide (z < 0)) z.natAbs=z:=by
  by_cases h:z < 0
  · rw[decide_eq_true h]; simp only[sg,cond_true]; omega
  · rw[decide_eq_false h]; simp only[sg,cond_false]; omega
theorem zhp {m:Nat}:(((dg m).length:Int)==0)=decide (m=0):=by
  by_cases h:m=0
  · subst h; simp[zay]
  · have hn:dg m≠[]:=fun e=>h (zfY.1 e)
    have:=List.length_pos_iff.2 hn
    rw[decide_eq_false h,beq_eq_false_iff_ne]; omega
theorem zng {m:Nat}:decide (((dg m).length:Int) > 0)=decide (m≠0):=by
  by_cases h:m=0
  · subst h; simp[zay]
  · have hn:dg m≠[]:=fun e=>h (zfY.1 e)
    have:=List.length_pos_iff.2 hn
    rw[decide_eq_true h,decide_eq_true_eq]; omega
theorem zc5 (neg:Bool) (m:Nat):zaL neg (dg m)=some (bg (sg neg m)):=by
  unfold zaL
  rw[zhp]
  by_cases h:m=0
  · subst h; rw[decide_eq_true rfl,cond_true,zoN,zp0]
  · rw[decide_eq_false h,cond_false,zEd h]
theorem zqW (neg:Bool) (m:Nat):zfC neg (dg m)=some (bg (sg neg m)):=zc5 neg m
theorem zgA {m:Nat} (h:(dg m).length≤1073741824):zdi (dg m)=some (dg m):=by
  have key:zfp (dg m) ((dg m).length:Int)=some (dg m,((dg m).length:Int),()):=by
    unfold zfp
    refine zaR ?_
    by_cases hm:m=0
    · subst hm; simp[zdf,zay]
    · have hne:dg m≠[]:=fun e=>hm (zfY.1 e)
      have hp:=List.length_pos_iff.2 hne
      have h0:(dg m).getLast hne≠0:=by
        intro e
        have:=(zbV m).2
        rw[zp6,List.getLast?_eq_some_getLast hne,e] at this
        exact this rfl
      have h1:decide (((dg m).length:Int) > 0)=true:=by rw[decide_eq_true_eq]; omega
      have h2:((dg m).getLast hne==0)=false:=by rw[beq_eq_false_iff_ne]; exact h0
      simp only[zdf,h1,cond_true,zmc hne h,Option.bind_some,h2,cond_false]
  unfold zdi
  rw[key,Option.bind_some]
  simp only[]
  rw[zkM _ _ (Nat.le_refl _),Option.bind_some,Int.toNat_natCast,show cut (dg m) 0 (dg m).length=dg m by simp[cut]]
theorem zEK {m:Nat} (h:(dg m).length≤60):zfz (dg m)=some (dg m):=by
  unfold zfz
  rw[zgA (by omega),Option.bind_some]
  have:decide (((dg m).length:Int) > 60)=false:=by rw[decide_eq_false_iff_not]; omega
  rw[this,cond_false]
theorem zdn (neg:Bool) {m:Nat} (h:(dg m).length≤60):zau neg (dg m)=some (bg (sg neg m)):=by
  unfold zau
  rw[zEK h,Option.bind_some,room (by omega)]
  simp only[Option.bind_some,zng]
  by_cases hm:m=0
  · subst hm; rw[zoN,zp0,zay]; cases neg<;>rfl
  · rw[zEd hm,decide_eq_true hm]; cases neg<;>rfl
theorem zn7 {m n k:Nat} (hm:(dg m).length≤k) (hn:(dg n).length≤k):(dg (m+n)).length≤k+1:=by
  rw[zfR] at *
  rw[zel]
  have:((m+n:Nat):Int)=(m:Int)+n:=by omega
  omega
theorem zmV {x y:Int} (hx:(dg x.natAbs).length≤1073740000) (hy:(dg y.natAbs).length≤1073740000):zdT (bg x) (bg y)=some (bg (x+y)):=by
  unfold zdT bg
  simp only[]
  by_cases h:decide (x < 0)=decide (y < 0)
  · have:(decide (x < 0)==decide (y < 0))=true:=by simpa using h
    rw[this,cond_true,zvJ hx hy,Option.bind_some,zc5,Option.bind_some]
    have e:sg (decide (x < 0)) (x.natAbs+y.natAbs)=x+y:=by
      by_cases hx0:x < 0
      · rw[decide_eq_true hx0]; rw[decide_eq_true hx0] at h; have:=of_decide_eq_true h.symm; simp only[sg,cond_true]; omega
      · rw[decide_eq_false hx0]; rw[decide_eq_false hx0] at h; have:=of_decide_eq_false h.symm; simp only[sg,cond_false]; omega
    rw[e]; rfl
  · have : (decide (x < 0)==decide (y < 0))=false:=by simpa using h
    have hcmp:=zvI (zbV x.natAbs) (zbV y.natAbs) (by omega)
    rw[zcB,zcB] at hcmp
    rw[this,cond_false,hcmp,Option.bind_some,zDO]
    by_cases hge:y.natAbs≤x.natAbs
    · rw [decide_eq_true (show ((y.natAbs:Nat):Int)≤x.natAbs by omega),cond_true,zvG hx hge,Option.bind_some,zc5,Option.bind_some]
      have e:sg (decide (x < 0)) (x.natAbs - y.natAbs)=x+y:=by
        by_cases hx0:x < 0
        · rw[decide_eq_true hx0]; simp only[sg,cond_true]; simp[hx0] at h; omega
        · rw[decide_eq_false hx0]; simp only[sg,cond_false]; simp[hx0] at h; omega
      rw[e]; rfl
    · rw [decide_eq_false (show ¬ ((y.natAbs:Nat):Int)≤x.natAbs by omega),cond_false,zvG hy (by omega),Option.bind_some,zc5,Option.bind_some]
      have e:sg (decide (y < 0)) (y.natAbs - x.natAbs)=x+y:=by
        by_cases hx0:x < 0
        · simp[hx0] at h; rw[decide_eq_false (by omega)]; simp only[sg,cond_false]; omega
        · simp[hx0] at h; rw[decide_eq_true (by omega)]; simp only[sg,cond_true]; omega
      rw[e]; rfl
theorem zmp {x y:Int} (hx:(dg x.natAbs).length≤59) (hy:(dg y.natAbs).length≤59):zcu (bg x) (bg y)=some (bg (x+y)):=by
  unfold zcu bg
  simp only[]
  by_cases h:decide (x < 0)=decide (y < 0)
  · have:(decide (x < 0)==decide (y < 0))=true:=by simpa using h
    rw[this,cond_true,spec_add (by omega) (by omega),Option.bind_some,zdn _ (zn7 hx hy),Option.bind_some]
    have e:sg (decide (x < 0)) (x.natAbs+y.natAbs)=x+y:=by
      by_cases hx0:x < 0
      · rw[decide_eq_true hx0]; rw[decide_eq_true hx0] at h; have:=of_decide_eq_true h.symm; simp only[sg,cond_true]; omega
      · rw[decide_eq_false hx0]; rw[decide_eq_false hx0] at h; have:=of_decide_eq_false h.symm; simp only[sg,cond_false]; omega
    rw[e]; rfl
  · have : (decide (x < 0)==decide (y < 0))=false:=by simpa using h
    have hcmp:=zl2 (zbV x.natAbs) (zbV y.natAbs) (by omega)
    rw[zcB,zcB] at hcmp
    rw[this,cond_false,hcmp,Option.bind_some,zDO]
    by_cases hge:y.natAbs≤x.natAbs
    · rw [decide_eq_true (show ((y.natAbs:Nat):Int)≤x.natAbs by omega),cond_true,zoI (by omega) hge,Option.bind_some,zdn _ (Nat.le_trans (zbL (Nat.sub_le ..)) (by omega)),Option.bind_some]
      have e:sg (decide (x < 0)) (x.natAbs - y.natAbs)=x+y:=by
        by_cases hx0:x < 0
        · rw[decide_eq_true hx0]; simp only[sg,cond_true]; simp[hx0] at h; omega
        · rw[decide_eq_false hx0]; simp only[sg,cond_false]; simp[hx0] at h; omega
      rw[e]; rfl
    · rw [decide_eq_false (show ¬ ((y.natAbs:Nat):Int)≤x.natAbs by omega),cond_false,zoI (by omega) (by omega),Option.bind_some,zdn _ (Nat.le_trans (zbL (Nat.sub_le ..)) (by omega)),Option.bind_some]
      have e:sg (decide (y < 0)) (y.natAbs - x.natAbs)=x+y:=by
        by_cases hx0:x < 0
        · simp[hx0] at h; rw[decide_eq_false (by omega)]; simp only[sg,cond_false]; omega
        · simp[hx0] at h; rw[decide_eq_true (by omega)]; simp only[sg,cond_true]; omega
      rw[e]; rfl
theorem zAJ (x y:Int):sg (!(decide (x < 0)==decide (y < 0))) (x.natAbs * y.natAbs)=x * y:=by
  rw[← Int.natAbs_mul]
  by_cases hx:x < 0
  · by_cases hy:y < 0
    · have:=Int.mul_pos_of_neg_of_neg hx hy
      rw[decide_eq_true hx,decide_eq_true hy]; simp only[sg]; simp; omega
    · rw[decide_eq_true hx,decide_eq_false hy]
      have:=Int.mul_nonpos_of_nonpos_of_nonneg (show x≤0 by omega) (show 0≤y by omega)
      simp only[sg]; simp; omega
  · by_cases hy:y < 0
    · rw[decide_eq_false hx,decide_eq_true hy]
      have:=Int.mul_nonpos_of_nonneg_of_nonpos (show 0≤x by omega) (show y≤0 by omega)
      simp only[sg]; simp; omega
    · rw[decide_eq_false hx,decide_eq_false hy]
      have:=Int.mul_nonneg (show 0≤x by omega) (show 0≤y by omega)
      simp only[sg]; simp; omega
theorem zhg {x y:Int} (hx:(dg x.natAbs).length≤500000000) (hy:(dg y.natAbs).length≤500000000):zbB (bg x) (bg y)=some (bg (x * y)):=by
  unfold zbB bg
  simp only[]
  rw[ziB hx hy,Option.bind_some,zc5,Option.bind_some,zAJ]; rfl
theorem zuq {x:Int} (hx:(dg x.natAbs).length≤500000000):zeJ (bg x)=some (bg (-x)):=by
  unfold zeJ bg
  simp only[]
  rw[zfT (by omega),Option.bind_some,zc5,Option.bind_some]
  have e:sg (!decide (x < 0)) x.natAbs = -x:=by
    by_cases h:x < 0
    · rw[decide_eq_true h]; simp only[sg,Bool.not_true,cond_false]; omega
    · rw[decide_eq_false h]; simp only[sg,Bool.not_false,cond_true]; omega
  rw[e]; rfl
/-! ### Fractions -/
def rq (q:Rat):Rt:=⟨decide (q.num < 0),dg q.num.natAbs,dg q.den⟩
def Fit (q:Rat):Prop:=(dg q.num.natAbs).length≤24∧(dg q.den).length≤24
instance (q:Rat):Decidable (Fit q):=by unfold Fit; infer_instance
def ro:Option Rat→Rt
  | none=>⟨false,[],[]⟩
  | some q=>rq q
def chk (q:Rat):Option Rat:=if Fit q then some q else none
def Oks (o:Option Rat):Prop:=∀ q,o=some q→Fit q
theorem zoX (q:Rat):Oks (chk q):=fun r h=>by
  unfold chk at h
  split at h
  · rename_i hf; cases h; exact hf
  · cases h
theorem zoV:Oks none:=fun q h=>by cases h
theorem Fit.ok {q:Rat} (h:Fit q):Oks (some q):=fun r hr=>by cases hr; exact h
theorem zuG {q:Rat} (h:Fit q):chk q=some q:=by unfold chk; rw[if_pos h]
theorem zL1 {q:Rat} (h:¬ Fit q):chk q=none:=by unfold chk; rw[if_neg h]
theorem ziw {o:Option Rat} {f:Rat→Option Rat} (h:∀ q,Oks (f q)):Oks (o.bind f):=by
  cases o with
  | none=>exact zoV
  | some q=>exact h q
theorem zl8 (z:Int) {d:Nat} (hd:d≠0):(mkRat z d).num=z / (Nat.gcd z.natAbs d:Nat)∧(mkRat z d).den=d / Nat.gcd z.natAbs d:=by
  rw[Rat.mkRat_def,dif_neg hd,Rat.normalize_eq]
  exact ⟨rfl,rfl⟩
theorem zJt (z:Int) {d:Nat} (hd:d≠0):(mkRat z d).num.natAbs=z.natAbs / Nat.gcd z.natAbs d:=by
  rw[(zl8 z hd).1]
  have h1:(Nat.gcd z.natAbs d:Nat) ∣ z.natAbs:=Nat.gcd_dvd_left ..
  rw[Int.natAbs_ediv_of_dvd (Int.ofNat_dvd_left.2 h1)]; rfl
theorem zKA (z:Int) {d:Nat} (hd:d≠0):decide ((mkRat z d).num < 0)=decide (z < 0):=by
  rw[(zl8 z hd).1]
  have hg:0 < Nat.gcd z.natAbs d:=Nat.gcd_pos_of_pos_right _ (by omega)
  have h1:((Nat.gcd z.natAbs d:Nat):Int) ∣ z:=Int.ofNat_dvd_left.2 (Nat.gcd_dvd_left ..)
  obtain ⟨c,hc⟩:=h1
  generalize Nat.gcd z.natAbs d=g at *
  rw[hc,Int.mul_ediv_cancel_left _ (by omega)]
  congr 1
  apply propext
  constructor
  · intro h; exact Int.mul_neg_of_pos_of_neg (by omega) h
  · intro h
    rcases Int.lt_or_le c 0 with h2 | h2
    · exact h2
    · have:=Int.mul_nonneg (show (0:Int)≤g by omega) h2; omega
theorem zPd (z:Int) {d:Nat} (hd:d≠0):rq (mkRat z d)=⟨decide (z < 0),dg (z.natAbs / Nat.gcd z.natAbs d),dg (d / Nat.gcd z.natAbs d)⟩:=by
  unfold rq
  rw[zKA z hd,zJt z hd,(zl8 z hd).2]
theorem zJG (z:Int) {d:Nat} (hd:d≠0):Fit (mkRat z d)↔(dg (z.natAbs / Nat.gcd z.natAbs d)).length≤24∧(dg (d / Nat.gcd z.natAbs d)).length≤24:=by
  unfold Fit
  rw[zJt z hd,(zl8 z hd).2]
theorem zho:dg 1=[1]:=zre (by omega) (by omega)
theorem zKr:rq 0=⟨false,[],[1]⟩:=by
  unfold rq
  have h1:(0:Rat).num=0:=rfl
  have h2:(0:Rat).den=1:=rfl
  rw[h1,h2,show (0:Int).natAbs=0 from rfl,zay,zho]; rfl
theorem zvO:Fit 0:=by
  unfold Fit
  have h1:(0:Rat).num=0:=rfl
  have h2:(0:Rat).den=1:=rfl
  rw[h1,h2,show (0:Int).natAbs=0 from rfl,zay,zho]; simp
theorem zqu {m:Nat}:(cond (((dg m).length:Int)==1) ((idx (dg m) 0).bind fun e=>some (e==1)) (some false))=some (decide (m=1)):=by
  by_cases h1:(dg m).length=1
  · have hb:(((dg m).length:Int)==1)=true:=by rw[h1]; rfl
    obtain ⟨_,_,e⟩:=zvs h1
    rw[hb,cond_true,e,show ((0:Int)=((0:Nat):Int)) from rfl,zeU (x:=(m:Int)) (by rfl),Option.bind_some]
    congr 1
    rw[Bool.eq_iff_iff]; simp; omega
  · have hb:(((dg m).length:Int)==1)=false:=by rw[beq_eq_false_iff_ne]; omega
    rw[hb,cond_false]
    have:m≠1:=by rintro rfl; rw[zho] at h1; exact h1 rfl
    rw[decide_eq_false this]
theorem zof (m:Nat):zff (dg m)=some (decide (m=1)):=zqu
theorem zd9 (m:Nat):zda (dg m)=some (decide (m=1)):=zqu
theorem zEB {xs:List Int}:decide ((xs.length:Int) > 24)=!decide (xs.length≤24):=by
  rw[Bool.eq_iff_iff]; simp; omega
theorem zLF {p q:Prop} [Decidable p] [Decidable q] {α:Type} {a b:α}:cond (!decide p) a (cond (!decide q) a b)=if p∧q then b else a:=by
  by_cases hp:p<;>by_cases hq:q<;>simp[hp,hq]
theorem zql (z:Int) {d:Nat} (hd:d≠0):ro (chk (mkRat z d))=if (dg (z.natAbs / Nat.gcd z.natAbs d)).length≤24∧(dg (d / Nat.gcd z.natAbs d)).length≤24 then ⟨decide (z < 0),dg (z.natAbs / Nat.gcd z.natAbs d),dg (d / Nat.gcd z.natAbs d)⟩ else ⟨false,[],[]⟩:=by
  by_cases h:Fit (mkRat z d)
  · rw[zuG h,if_pos ((zJG z hd).1 h)]; exact zPd z hd
  · rw[zL1 h,if_neg (fun k=>h ((zJG z hd).2 k))]; rfl
theorem zfS {z:Int} {d:Nat} (hd:d≠0) (hz:(dg z.natAbs).length≤100000000) (hl:(dg d).length≤100000000):zbM (bg z) (dg d)=some (ro (chk (mkRat z d))):=by
  unfold zbM bg
  simp only[]
  rw[zhp]
  by_cases h0:z.natAbs=0
  · have:z=0:=by omega
    subst this
    rw[decide_eq_true h0,cond_true,Rat.zero_mkRat,zuG zvO]
    exact congrArg some zKr.symm
  · rw [decide_eq_false h0,cond_false,impl_gcd hl hz (by omega),Option.bind_some,zof,Option.bind_some,zql z hd]
    have hg0:0 < Nat.gcd d z.natAbs:=Nat.gcd_pos_of_pos_left _ (by omega)
    rw[Nat.gcd_comm z.natAbs d]
    by_cases h1:Nat.gcd d z.natAbs=1
    · rw[decide_eq_true h1,Bool.not_true,cond_false,h1,Nat.div_one,Nat.div_one,zEB,zEB,zLF]
      split<;>rfl
    · have hgl:(dg (Nat.gcd d z.natAbs)).length≤100000000:=Nat.le_trans (zbL (Nat.gcd_le_left _ (by omega))) hl
      have hzne:z.natAbs / Nat.gcd d z.natAbs≠0:=by
        have:=Nat.div_pos (Nat.gcd_le_right (n:=z.natAbs) d (by omega)) hg0
        omega
      rw[decide_eq_false h1,Bool.not_false,cond_true,impl_div hz hgl hg0,Option.bind_some]
      simp only[]
      rw[impl_div hl hgl hg0,Option.bind_some]
      simp only[]
      rw[zc5,Option.bind_some,zEd hzne,zEB,zEB,zLF]
      split<;>rfl
theorem zqY {z:Int} {d:Nat} (hd:d≠0) (hz:(dg z.natAbs).length≤100000000) (hl:(dg d).length≤100000000):zfD (bg z) (dg d)=some (ro (chk (mkRat z d))):=zfS hd hz hl
theorem zl1 {neg:Bool} {m d:Nat} (hd:d≠0) (hz:(dg m).length≤100000000) (hl:(dg d).length≤100000000):zaO neg (dg m) (dg d)=some (ro (chk (mkRat (sg neg m) d))):=by
  unfold zaO
  rw[zgA (by omega),Option.bind_some,zgA (by omega),Option.bind_some,zhp,decide_eq_false hd,cond_false,zd9,Option.bind_some,zql _ hd,zkb]
  have fin:∀ (p e:Nat),(m=0↔p=0)→((cond (decide (((dg p).length:Int) > 24)) (some (⟨false,([]:List Int),([]:List Int)⟩:Rt)) (cond (decide (((dg e).length:Int) > 24)) (some (⟨false,([]:List Int),([]:List Int)⟩:Rt)) ((zau neg (dg p)).bind fun r3=>(zal (Nat.ble (dg e).length zar)).bind fun _=>some (⟨r3.neg,r3.mag,dg e⟩:Rt))))
      = some (if (dg p).length≤24∧(dg e).length≤24 then ⟨decide (sg neg m < 0),dg p,dg e⟩ else ⟨false,[],[]⟩)):=by
    intro p e hpm
    rw[zEB,zEB,zLF]
    by_cases hf:(dg p).length≤24∧(dg e).length≤24
    · rw [if_pos hf,if_pos hf,zdn neg (by omega),Option.bind_some,room (by omega),Option.bind_some]
      by_cases hp:p=0
      · subst hp; have:=hpm.2 rfl; subst this; rw[zoN,zp0,zay]; rfl
      · have hm:m≠0:=fun e=>hp (hpm.1 e)
        rw[zEd hp,zvg hm]
    · rw[if_neg hf,if_neg hf]
  by_cases h1:d=1
  · rw[decide_eq_true h1,Bool.not_true,cond_false]
    subst h1
    rw[Nat.gcd_one_right,Nat.div_one,Nat.div_one]
    exact fin m 1 Iff.rfl
  · have hg0:0 < Nat.gcd m d:=Nat.gcd_pos_of_pos_right _ (by omega)
    rw[decide_eq_false h1,Bool.not_false,cond_true,spec_gcd hz hl,Option.bind_some,zd9,Option.bind_some]
    by_cases h2:Nat.gcd m d=1
    · rw[decide_eq_true h2,Bool.not_true,cond_false,h2,Nat.div_one,Nat.div_one]
      exact fin m d Iff.rfl
    · have hgl:(dg (Nat.gcd m d)).length≤100000000:=Nat.le_trans (zbL (Nat.gcd_le_right _ (by omega))) hl
      rw[decide_eq_false h2,Bool.not_false,cond_true,zoJ hz hgl hg0,Option.bind_some]
      simp only[]
      rw[zoJ hl hgl hg0,Option.bind_some]
      simp only[]
      refine fin _ _ ⟨fun e=>by rw[e,Nat.zero_div],fun e=>?_⟩
      rcases Nat.eq_zero_or_pos m with h | h
      · exact h
      · have:=Nat.div_pos (Nat.gcd_le_left (m:=m) d h) hg0; omega
theorem zgB {neg:Bool} {m:Nat} (hz:(dg m).length≤100000000):zaO neg (dg m) (dg 0)=some (ro none):=by
  unfold zaO
  rw[zgA (by omega),Option.bind_some,zgA (by rw[zay]; simp),Option.bind_some,zhp,decide_eq_true rfl,cond_true]; rfl
end Go.Di
namespace Go.Di
def zO2 (o p:Option Rat):Option Rat:=o.bind fun q=>p.bind fun r=>chk (q+r)
def zvy (o p:Option Rat):Option Rat:=o.bind fun q=>p.bind fun r=>chk (q * r)
def divO (o p:Option Rat):Option Rat:=o.bind fun q=>p.bind fun r=>if r=0 then none else chk (q / r)
def zOT (o:Option Rat):Option Rat:=o.map fun q => -q
def zKe (o p:Option Rat):Option Rat:=zO2 o (zOT p)
theorem zE2 {o p:Option Rat}:Oks (zO2 o p):=ziw fun _=>ziw fun _=>zoX _
theorem zgc {o p:Option Rat}:Oks (zvy o p):=ziw fun _=>ziw fun _=>zoX _
theorem zEY {o p:Option Rat}:Oks (zKe o p):=zE2
theorem zE1 {o p:Option Rat}:Oks (divO o p):=ziw fun _=>ziw fun r=>by
  split
  · exact zoV
  · exact zoX _
theorem zLL {q:Rat} (h:Fit q):Fit (-q):=by
  unfold Fit at *
  rw[show (-q).num = -q.num from rfl,show (-q).den=q.den from rfl,Int.natAbs_neg]; exact h
theorem zvt {o:Option Rat} (h:Oks o):Oks (zOT o):=fun q hq=>by
  cases o with
  | none=>cases hq
  | some r=>cases hq; exact zLL (h r rfl)
theorem zeQ:ro none=⟨false,dg 0,dg 0⟩:=by rw[zay]; rfl
theorem zke {o:Option Rat} (h:Oks o):(ro o).den.length≤24:=by
  cases o with
  | none=>simp[ro]
  | some q=>exact (h q rfl).2
theorem zmv {o:Option Rat} (h:Oks o):(ro o).mag.length≤24:=by
  cases o with
  | none=>simp[ro]
  | some q=>exact (h q rfl).1
theorem zAQ {o:Option Rat} (h:Oks o):(ro o).fit:=⟨by have:=zmv h; omega,by have:=zke h; omega⟩
theorem zvV (o:Option Rat):(((ro o).den.length:Int)==0)=o.isNone:=by
  cases o with
  | none=>rfl
  | some q =>
    show (((dg q.den).length:Int)==0)=false
    rw[zhp,decide_eq_false q.den_nz]
theorem zdZ (o:Option Rat):zaW (ro o)=some o.isNone:=by unfold zaW; rw[zvV]
theorem zmI (a b:Rat) (h:a.den=b.den):mkRat (a.num+b.num) a.den=a+b:=by
  rw[Rat.add_def',Rat.mkRat_eq_iff a.den_nz (Nat.mul_ne_zero a.den_nz b.den_nz),← h]
  simp only[Int.natCast_mul]
  grind
theorem zJs (a b:Rat):mkRat (a.num * b.den+b.num * a.den) (a.den * b.den)=a+b:=(Rat.add_def' a b).symm
theorem zJq (a b:Rat):mkRat (a.num * b.num) (a.den * b.den)=a * b:=(Rat.mul_def' a b).symm
theorem zA6 (a b:Rat) (hb:b≠0):mkRat (a.num * sg (decide (b.num < 0)) b.den) (a.den * b.num.natAbs)=a / b:=by
  have hn:b.num≠0:=fun h=>hb (Rat.num_eq_zero.1 h)
  have hd:a.den * b.num.natAbs≠0:=Nat.mul_ne_zero a.den_nz (by omega)
  have key:mkRat (a.num * sg (decide (b.num < 0)) b.den) (a.den * b.num.natAbs) * b=a:=by
    have e1:b=mkRat b.num b.den:=(Rat.mkRat_self b).symm
    have e2:a=mkRat a.num a.den:=(Rat.mkRat_self a).symm
    rw[e1,Rat.mkRat_mul_mkRat,e2,Rat.mkRat_eq_iff (Nat.mul_ne_zero (by rw[Rat.mkRat_self,Rat.mkRat_self]; exact hd) b.den_nz) a.den_nz]
    simp only[Rat.mkRat_self]
    have hs:sg (decide (b.num < 0)) b.den * b.num=(b.den:Int) * (b.num.natAbs:Int):=by
      by_cases h:b.num < 0
      · rw[decide_eq_true h]; simp only[sg,cond_true]
        have:((b.num.natAbs:Nat):Int) = -b.num:=by omega
        rw[this]; grind
      · rw[decide_eq_false h]; simp only[sg,cond_false]
        have:((b.num.natAbs:Nat):Int)=b.num:=by omega
        rw[this]
    simp only[Int.natCast_mul]
    grind
  generalize mkRat (a.num * sg (decide (b.num < 0)) b.den) (a.den * b.num.natAbs)=x at *
  rw[← key,Rat.mul_div_cancel hb]
theorem zeP {a b:Nat} (ha:(dg a).length≤24) (hb:(dg b).length≤24):(dg (a * b)).length≤48:=by have:=ziA a b; omega
theorem zJM {n:Nat}:bg (n:Int)=⟨false,dg n⟩:=by
  unfold bg
  rw[decide_eq_false (by omega),Int.natAbs_natCast]
theorem zj9 {x:Int} {b:Nat} (ha:(dg x.natAbs).length≤24) (hb:(dg b).length≤24):(dg (x * (b:Int)).natAbs).length≤48:=by
  rw[Int.natAbs_mul,Int.natAbs_natCast]; exact zeP ha hb
theorem zka {x y:Int} {k:Nat} (ha:(dg x.natAbs).length≤k) (hb:(dg y.natAbs).length≤k):(dg (x+y).natAbs).length≤k+1 :=
  Nat.le_trans (zbL (show (x+y).natAbs≤x.natAbs+y.natAbs by omega)) (zn7 ha hb)
theorem zCX {o p:Option Rat} (ho:Oks o) (hp:Oks p):zjq (ro o) (ro p)=some (ro (zO2 o p)):=by
  unfold zjq
  rw[zdZ,zdZ]
  cases o with
  | none=>rfl
  | some q =>
    cases p with
    | none=>rfl
    | some r =>
      have fq:=ho q rfl
      have fr:=hp r rfl
      simp only[Option.isNone_some,Option.bind_some,cond_false]
      rw[zmU (by have:=zke ho; omega),Option.bind_some]
      show cond _ ((zdT (bg q.num) (bg r.num)).bind _) ((zbB (bg q.num) ⟨false,dg r.den⟩).bind fun r4=>(zbB (bg r.num) ⟨false,dg q.den⟩).bind _)=_
      by_cases h:q.den=r.den
      · have:eqB (ro (some q)).den (ro (some r)).den=true:=zc6.2 (congrArg dg h)
        rw[this,cond_true,zmV (by have:=fq.1; omega) (by have:=fr.1; omega),Option.bind_some,zfT (by have:=zke ho; omega),Option.bind_some]
        show (zbM (bg (q.num+r.num)) (dg q.den)).bind _=_
        rw[zfS q.den_nz (by have:=zka fq.1 fr.1; omega) (by have:=fq.2; omega),Option.bind_some,zmI q r h]; rfl
      · have:eqB (ro (some q)).den (ro (some r)).den=false:=zhW.2 fun e=>h (zNR e)
        rw[this,cond_false,← zJM,← zJM,zhg (by have:=fq.1; omega) (by have:=fr.2; rw[Int.natAbs_natCast]; omega),Option.bind_some,zhg (by have:=fr.1; omega) (by have:=fq.2; rw[Int.natAbs_natCast]; omega),Option.bind_some]
        have h1:=zj9 fq.1 fr.2
        have h2:=zj9 fr.1 fq.2
        rw[zmV (by omega) (by omega),Option.bind_some]
        show ((zbg (dg q.den) (dg r.den)).bind _)=_
        have h3:=zeP fq.2 fr.2
        have h4:=zka h1 h2
        rw[ziB (by have:=fq.2; omega) (by have:=fr.2; omega),Option.bind_some,zfS (Nat.mul_ne_zero q.den_nz r.den_nz) (by omega) (by omega),Option.bind_some,zJs]; rfl
theorem zko {o p:Option Rat} (ho:Oks o) (hp:Oks p):zb9 (ro o) (ro p)=some (ro (zvy o p)):=by
  unfold zb9
  rw[zdZ,zdZ]
  cases o with
  | none=>rfl
  | some q =>
    cases p with
    | none=>rfl
    | some r =>
      have fq:=ho q rfl
      have fr:=hp r rfl
      simp only[Option.isNone_some,Option.bind_some,cond_false]
      show ((zbB (bg q.num) (bg r.num)).bind fun r3=>(zbg (dg q.den) (dg r.den)).bind _)=_
      have h3:=zeP fq.2 fr.2
      have h4:=zeP fq.1 fr.1
      rw[zhg (by have:=fq.1; omega) (by have:=fr.1; omega),Option.bind_some,ziB (by have:=fq.2; omega) (by have:=fr.2; omega),Option.bind_some,zfS (Nat.mul_ne_zero q.den_nz r.den_nz) (by rw[Int.natAbs_mul]; omega) (by omega),Option.bind_some,zJq]; rfl
theorem impl_divO {o p:Option Rat} (ho:Oks o) (hp:Oks p):zfN (ro o) (ro p)=some (ro (divO o p)):=by
  unfold zfN
  rw[zdZ,zdZ]
  cases o with
  | none=>rfl
  | some q =>
    cases p with
    | none=>rfl
    | some r =>
      have fq:=ho q rfl
      have fr:=hp r rfl
      simp only[Option.isNone_some,Option.bind_some,cond_false]
      have hl:(((ro (some r)).mag.length:Int)==0)=decide (r.num.natAbs=0):=zhp
      rw[hl]
      by_cases h0:r=0
      · have:r.num.natAbs=0:=by rw[h0]; rfl
        rw[decide_eq_true this,cond_true]
        simp[divO,h0,ro]
      · have hn:r.num.natAbs≠0:=fun h=>h0 (Rat.num_eq_zero.1 (by omega))
        rw[decide_eq_false hn,cond_false]
        unfold zb9
        rw[zdZ]
        simp only[Option.isNone_some,Option.bind_some,cond_false]
        have hv:zaW (⟨(ro (some r)).neg,(ro (some r)).den,(ro (some r)).mag⟩:Rt)=some false:=by
          unfold zaW
          rw[show ((((⟨(ro (some r)).neg,(ro (some r)).den,(ro (some r)).mag⟩:Rt).den.length:Nat):Int)==0)=decide (r.num.natAbs=0) from zhp,decide_eq_false hn]
        rw[hv,Option.bind_some,cond_false]
        have hb:(⟨(ro (some r)).neg,(ro (some r)).den⟩:Bg)=bg (sg (decide (r.num < 0)) r.den):=(zEd r.den_nz).symm
        show (((zbB (bg q.num) ⟨(ro (some r)).neg,(ro (some r)).den⟩).bind fun r3=>(zbg (dg q.den) (dg r.num.natAbs)).bind fun r4=>_).bind _)=_
        rw[hb]
        have h3:=zeP fq.2 fr.1
        have h4:=zeP fq.1 fr.2
        rw[zhg (by have:=fq.1; omega) (by have:=fr.2; rw[zkb]; omega),Option.bind_some,ziB (by have:=fq.2; omega) (by have:=fr.1; omega),Option.bind_some,zfS (Nat.mul_ne_zero q.den_nz hn) (by rw[Int.natAbs_mul,zkb]; omega) (by omega),Option.bind_some,Option.bind_some,zA6 q r h0]
        simp[divO,h0]
theorem zCQ {o:Option Rat} (ho:Oks o):zjo (ro o)=some (ro (zOT o)):=by
  unfold zjo
  rw[zdZ]
  cases o with
  | none=>rfl
  | some q =>
    have fq:=ho q rfl
    simp only[Option.isNone_some,Option.bind_some,cond_false]
    show ((zeJ (bg q.num)).bind fun r2=>(zaM (dg q.den)).bind _)=_
    rw[zuq (by have:=fq.1; omega),Option.bind_some,zfT (by have:=fq.2; omega),Option.bind_some]
    show some (⟨decide (-q.num < 0),dg (-q.num).natAbs,dg q.den⟩:Rt)=some ⟨decide ((-q).num < 0),dg (-q).num.natAbs,dg (-q).den⟩
    rfl
theorem zqV {o p:Option Rat} (ho:Oks o) (hp:Oks p):zeZ (ro o) (ro p)=some (ro (zKe o p)):=by
  unfold zeZ
  rw[zCQ hp,Option.bind_some,zCX ho (zvt hp)]; rfl
/-! ### The reference's -/
theorem zj7 {o p:Option Rat} (ho:Oks o) (hp:Oks p):zbf (ro o) (ro p)=some (ro (zvy o p)):=by
  unfold zbf
  have hom:=zmv ho
  have hpm:=zmv hp
  have hod:=zke ho
  have hpd:=zke hp
  cases o with
  | none =>
    obtain ⟨m,d,e1,e2⟩:∃ m d:Nat,(ro p).mag=dg m∧(ro p).den=dg d:=by
      cases p with
      | none=>exact ⟨0,0,zay.symm,zay.symm⟩
      | some r=>exact ⟨_,_,rfl,rfl⟩
    rw[e1] at hpm; rw[e2] at hpd
    rw[zeQ,e1,e2]
    rw[zcn (by rw[zay]; simp) (by omega),Option.bind_some,zcn (by rw[zay]; simp) (by omega),Option.bind_some,Nat.zero_mul,Nat.zero_mul,zgB (by rw[zay]; simp),Option.bind_some]; rfl
  | some q =>
    cases p with
    | none =>
      have fq:=ho q rfl
      rw[zeQ]
      show ((zas (dg q.num.natAbs) (dg 0)).bind fun r1=>(zas (dg q.den) (dg 0)).bind _)=_
      rw[zcn (by have:=fq.1; omega) (by rw[zay]; simp),Option.bind_some,zcn (by have:=fq.2; omega) (by rw[zay]; simp),Option.bind_some,Nat.mul_zero,Nat.mul_zero,zgB (by rw[zay]; simp),Option.bind_some]; rfl
    | some r =>
      have fq:=ho q rfl
      have fr:=hp r rfl
      have h3:=zeP fq.2 fr.2
      have h4:=zeP fq.1 fr.1
      show ((zas (dg q.num.natAbs) (dg r.num.natAbs)).bind fun r1=>(zas (dg q.den) (dg r.den)).bind fun r2=>(zaO (!(decide (q.num < 0)==decide (r.num < 0))) r1 r2).bind _)=_
      rw[zcn (by have:=fq.1; omega) (by have:=fr.1; omega),Option.bind_some,zcn (by have:=fq.2; omega) (by have:=fr.2; omega),Option.bind_some,zl1 (Nat.mul_ne_zero q.den_nz r.den_nz) (by omega) (by omega),Option.bind_some,zAJ,zJq]; rfl
theorem zvf (x:Int) (d:Nat):sg (decide (x < 0)) (x.natAbs * d)=x * d:=by
  by_cases h:x < 0
  · rw [decide_eq_true h]; simp only[sg,cond_true]
    have:((x.natAbs * d:Nat):Int)=(-x) * d:=by
      rw[Int.natCast_mul]; congr 1; omega
    rw[this]; grind
  · rw[decide_eq_false h]; simp only[sg,cond_false]
    rw[Int.natCast_mul]; congr 1; omega
theorem spec_addO {o p:Option Rat} (ho:Oks o) (hp:Oks p):zdP (ro o) (ro p)=some (ro (zO2 o p)):=by
  have hom:=zmv ho
  have hpm:=zmv hp
  have hod:=zke ho
  have hpd:=zke hp
  -- the long way, for any two values
  have long:∀ (x y:Int) (d e:Nat),(dg x.natAbs).length≤24→(dg y.natAbs).length≤24→(dg d).length≤24→(dg e).length≤24 →
      ((zas (dg x.natAbs) (dg e)).bind fun r2 =>
      (zau (decide (x < 0)) r2).bind fun r3 =>
      (zas (dg y.natAbs) (dg d)).bind fun r4 =>
      (zau (decide (y < 0)) r4).bind fun r5 =>
      (zcu r3 r5).bind fun r6 =>
      (zas (dg d) (dg e)).bind fun r7 =>
      (zaO r6.neg r6.mag r7).bind fun r8 =>
      some r8)=some (if d * e=0 then ro none else ro (chk (mkRat (x * e+y * d) (d * e)))):=by
    intro x y d e hx hy hd he
    have h1:=zeP hx he
    have h2:=zeP hy hd
    have h3:=zeP hd he
    rw[zcn (by omega) (by omega),Option.bind_some,zdn _ (by omega),Option.bind_some,zcn (by omega) (by omega),Option.bind_some,zdn _ (by omega),Option.bind_some,zvf,zvf]
    have h4:=zj9 hx he
    have h5:=zj9 hy hd
    have h6:=zka h4 h5
    rw[zmp (by omega) (by omega),Option.bind_some,zcn (by omega) (by omega),Option.bind_some]
    show ((zaO (decide (x * e+y * d < 0)) (dg (x * e+y * d).natAbs) (dg (d * e))).bind fun r8=>some r8)=_
    by_cases h0:d * e=0
    · rw[h0,if_pos rfl,zgB (by omega)]; rfl
    · rw[if_neg h0,zl1 h0 (by omega) (by omega),Option.bind_some,zAk]
  cases o with
  | none =>
    obtain ⟨y,d,e1,e2,e3⟩:∃ (y:Int) (d:Nat),(ro p).neg=decide (y < 0)∧(ro p).mag=dg y.natAbs∧(ro p).den=dg d:=by
      cases p with
      | none=>exact ⟨0,0,rfl,zay.symm,zay.symm⟩
      | some r=>exact ⟨_,_,rfl,rfl,rfl⟩
    rw[e2] at hpm; rw[e3] at hpd
    have hl:=long 0 y 0 d (by rw[show (0:Int).natAbs=0 from rfl,zay]; simp) hpm (by rw[zay]; simp) hpd
    rw[Nat.zero_mul,if_pos rfl] at hl
    unfold zdP
    rw[zeQ,zd9,Option.bind_some,decide_eq_false (by omega),cond_false,e1,e2,e3]
    exact hl
  | some q =>
    have fq:=ho q rfl
    cases p with
    | none =>
      have hl:=long q.num 0 q.den 0 fq.1 (by rw[show (0:Int).natAbs=0 from rfl,zay]; simp) fq.2 (by rw[zay]; simp)
      rw[Nat.mul_zero,if_pos rfl] at hl
      unfold zdP
      rw[show (ro (some q)).den=dg q.den from rfl,zd9,Option.bind_some,zeQ,zd9]
      cases decide (q.den=1) with
      | false=>exact hl
      | true=>simp only[cond_true,Option.bind_some,decide_eq_false (show ¬ (0:Nat)=1 by omega),cond_false]; exact hl
    | some r =>
      have fr:=hp r rfl
      have hl:=long q.num r.num q.den r.den fq.1 fr.1 fq.2 fr.2
      rw[if_neg (Nat.mul_ne_zero q.den_nz r.den_nz),zJs] at hl
      unfold zdP
      rw[show (ro (some q)).den=dg q.den from rfl,zd9,Option.bind_some,show (ro (some r)).den=dg r.den from rfl,zd9]
      by_cases hq1:q.den=1
      · rw [decide_eq_true hq1,cond_true,Option.bind_some]
        by_cases hr1:r.den=1
        · rw[decide_eq_true hr1,cond_true]
          show ((zcu (bg q.num) (bg r.num)).bind _)=_
          have h6:=zka fq.1 fr.1
          rw[zmp (by have:=fq.1; omega) (by have:=fr.1; omega),Option.bind_some,← zho]
          show ((zaO (decide (q.num+r.num < 0)) (dg (q.num+r.num).natAbs) (dg 1)).bind fun r8=>some r8)=_
          have:=zmI q r (by rw[hq1,hr1])
          rw[zl1 (by omega) (by omega) (by rw[zho]; simp),Option.bind_some,zAk]
          rw[hq1] at this
          rw[this]; rfl
        · rw[decide_eq_false hr1,cond_false]; exact hl
      · rw[decide_eq_false hq1,cond_false]; exact hl
end Go.Di
namespace Go.Di
def Good (r:Rt):Prop:=∃ q:Rat,Fit q∧r=rq q
theorem Fit.good {q:Rat} (h:Fit q):Good (rq q):=⟨q,h,rfl⟩
theorem Good.ro {r:Rt} (h:Good r):∃ q:Rat,Fit q∧r=ro (some q):=h
def zL8 (r:Rt):Prop:=zj1 r.mag∧(r.mag≠[]∨r.neg=false)∧zj1 r.den∧r.den≠[]∧r.mag.length≤24∧r.den.length≤24∧Nat.gcd (nv r.den).toNat (nv r.mag).toNat=1
theorem zvL {r:Rt}:Good r↔zL8 r:=by
  constructor
  · rintro ⟨q,hf,rfl⟩
    have h24:=hf.1
    have h24':=hf.2
    refine ⟨⟨zbV _,by show (dg q.num.natAbs).length≤60; omega⟩,?_,⟨zbV _,by show (dg q.den).length≤60; omega⟩,fun h=>q.den_nz (zfY.1 h),h24,h24',?_⟩
    · by_cases h:q.num < 0
      · left; intro e; have:=zfY.1 e; omega
      · right; exact decide_eq_false h
    · show Nat.gcd (nv (dg q.den)).toNat (nv (dg q.num.natAbs)).toNat=1
      rw[zcB,zcB,Int.toNat_natCast,Int.toNat_natCast,Nat.gcd_comm]; exact q.reduced
  · rintro ⟨⟨h1,_⟩,h2,⟨h3,_⟩,h4,h5,h6,h7⟩
    obtain ⟨neg,mag,den⟩:=r
    simp only at h1 h2 h3 h4 h5 h6 h7
    have e1:=h1.dg
    have e2:=h3.dg
    generalize (nv mag).toNat=m at *
    generalize (nv den).toNat=d at *
    subst e1; subst e2
    have hd:d≠0:=fun h=>h4 (by rw[h,zay])
    let q:Rat:=Rat.mk' (sg neg m) d hd (by rw[zkb]; show Nat.gcd m d=1; rw[Nat.gcd_comm]; exact h7)
    refine ⟨q,⟨by show (dg (sg neg m).natAbs).length≤24; rw[zkb]; exact h5,h6⟩,?_⟩
    show _=(⟨decide (sg neg m < 0),dg (sg neg m).natAbs,dg d⟩:Rt)
    rw[zkb]
    by_cases hm:m=0
    · subst hm
      rcases h2 with h2 | h2
      · exact absurd zay h2
      · rw[h2]; rfl
    · rw[zvg hm]
theorem zQo {a:List Int}:((a.length:Int)==0)=pB (a=[]):=by
  rw[Bool.eq_iff_iff,pB_iff]; simp
theorem zQn {a:List Int}:decide ((a.length:Int) > 0)=pB (a≠[]):=by
  rw[Bool.eq_iff_iff,pB_iff]; simp[List.length_pos_iff]
theorem zJn {p:Prop} [Decidable p]:pB p=decide p:=by rw[Bool.eq_iff_iff,pB_iff,decide_eq_true_iff]
theorem zJF {d m:Nat} {x:Option (List Int)} (h:x=some (dg (Nat.gcd d m))) {k:List Int→Option Bool} (hk:∀ g:Nat,k (dg g)=some (decide (g=1))) :
    (x.bind fun r3=>(k r3).bind fun r4=>some r4)=some (decide (Nat.gcd d m=1)):=by
  rw[h,Option.bind_some,hk]; rfl
theorem impl_ratOk {r:Rt} (h:r.fit):zgl r=some (pB (Good r)):=by
  rw[zl6 zvL]
  unfold zgl zcg
  rw[impl_natOk h.1,impl_natOk h.2,zQn,zQo,zEB,zEB]
  simp only[Option.bind_some]
  unfold zL8
  by_cases h1:zj1 r.mag
  · rw [pB_iff.2 h1,cond_true]
    by_cases h2:r.mag≠[]∨r.neg=false
    · have hb : cond (pB (r.mag≠[])) (some true) (some (!r.neg))=some true:=by
        rcases h2 with h2 | h2
        · rw[pB_iff.2 h2]; rfl
        · rw[h2]; cases pB (r.mag≠[])<;>rfl
      rw[hb]
      simp only[Option.bind_some,Bool.not_true,cond_false]
      by_cases h3:zj1 r.den
      · rw [pB_iff.2 h3]
        simp only[Bool.not_true,cond_false]
        by_cases h4:r.den=[]
        · rw[pB_iff.2 h4,cond_true]; symm; rw[pB_not.2 (fun k=>k.2.2.2.1 h4)]
        · rw [pB_not.2 h4,cond_false]
          by_cases h5:r.mag.length≤24
          · rw [decide_eq_true h5]
            simp only[Bool.not_true,cond_false]
            by_cases h6:r.den.length≤24
            · rw [decide_eq_true h6]
              simp only[Bool.not_true,cond_false]
              have e1:=h1.1.dg
              have e2:=h3.1.dg
              have hd0:0 < (nv r.den).toNat:=by
                rcases Nat.eq_zero_or_pos (nv r.den).toNat with h | h
                · rw[h,zay] at e2; exact absurd e2 h4
                · exact h
              have hg:=impl_gcd (m:=(nv r.den).toNat) (n:=(nv r.mag).toNat) (by rw[← e2]; omega) (by rw[← e1]; omega) hd0
              rw[← e2,← e1] at hg
              rw[zJF hg zof,← zJn]
              congr 1
              exact zl6 ⟨fun h=>⟨h1,h2,h3,h4,h5,h6,h⟩,fun h=>h.2.2.2.2.2.2⟩
            · rw[decide_eq_false h6]; symm; rw[pB_not.2 (fun k=>h6 k.2.2.2.2.2.1)]; rfl
          · rw[decide_eq_false h5]; symm; rw[pB_not.2 (fun k=>h5 k.2.2.2.2.1)]; rfl
      · rw[pB_not.2 h3]; symm; rw[pB_not.2 (fun k=>h3 k.2.2.1)]; rfl
    · have hb:cond (pB (r.mag≠[])) (some true) (some (!r.neg))=some false:=by
        have h3:¬ r.mag≠[]:=fun h=>h2 (.inl h)
        have h4:r.neg=true:=by
          cases hn:r.neg with
          | true=>rfl
          | false=>exact absurd (.inr hn) h2
        rw[pB_not.2 h3,h4]; rfl
      rw[hb]; symm; rw[pB_not.2 (fun k=>h2 k.2.1)]; rfl
  · rw[pB_not.2 h1]; symm; rw[pB_not.2 (fun k=>h1 k.1)]; rfl
theorem spec_ratOk {r:Rt} (h:r.fit):zgh r=some (pB (Good r)):=by
  rw[zl6 zvL]
  unfold zgh zf2
  rw[spec_natOk h.1,spec_natOk h.2,zQn,zQo,zEB,zEB]
  simp only[Option.bind_some]
  unfold zL8
  by_cases h1:zj1 r.mag
  · rw [pB_iff.2 h1,cond_true]
    by_cases h2:r.mag≠[]∨r.neg=false
    · have hb : cond (!r.neg) (some true) (some (pB (r.mag≠[])))=some true:=by
        rcases h2 with h2 | h2
        · rw[pB_iff.2 h2]; cases r.neg<;>rfl
        · rw[h2]; rfl
      rw[hb]
      simp only[Option.bind_some,Bool.not_true,cond_false]
      by_cases h3:zj1 r.den
      · rw [pB_iff.2 h3]
        simp only[Bool.not_true,cond_false]
        by_cases h4:r.den=[]
        · rw[pB_iff.2 h4,cond_true]; symm; rw[pB_not.2 (fun k=>k.2.2.2.1 h4)]
        · rw [pB_not.2 h4,cond_false]
          by_cases h6:r.den.length≤24
          · rw [decide_eq_true h6]
            simp only[Bool.not_true,cond_false]
            by_cases h5:r.mag.length≤24
            · rw[decide_eq_true h5]
              simp only[Bool.not_true,cond_false]
              have e1:=h1.1.dg
              have e2:=h3.1.dg
              have hg:=spec_gcd (m:=(nv r.mag).toNat) (n:=(nv r.den).toNat) (by rw[← e1]; omega) (by rw[← e2]; omega)
              rw[← e2,← e1] at hg
              rw[zJF hg zd9,← zJn]
              congr 1
              exact zl6 ⟨fun h=>⟨h1,h2,h3,h4,h5,h6,by rw[Nat.gcd_comm]; exact h⟩,fun h=>by rw[Nat.gcd_comm]; exact h.2.2.2.2.2.2⟩
            · rw[decide_eq_false h5]; symm; rw[pB_not.2 (fun k=>h5 k.2.2.2.2.1)]; rfl
          · rw[decide_eq_false h6]; symm; rw[pB_not.2 (fun k=>h6 k.2.2.2.2.2.1)]; rfl
      · rw[pB_not.2 h3]; symm; rw[pB_not.2 (fun k=>h3 k.2.2.1)]; rfl
    · have hb:cond (!r.neg) (some true) (some (pB (r.mag≠[])))=some false:=by
        have h3:¬ r.mag≠[]:=fun h=>h2 (.inl h)
        have h4:r.neg=true:=by
          cases hn:r.neg with
          | true=>rfl
          | false=>exact absurd (.inr hn) h2
        rw[pB_not.2 h3,h4]; rfl
      rw[hb]; symm; rw[pB_not.2 (fun k=>h2 k.2.1)]; rfl
  · rw[pB_not.2 h1]; symm; rw[pB_not.2 (fun k=>h1 k.1)]; rfl
/-! ### Whole numbers -/
theorem zog {n:Int} (h1 : -9223372036854775808≤n) (h2:n≤9223372036854775807):zdF n=some (bg n):=by
  unfold zdF
  by_cases h:n ≥ 0
  · rw[decide_eq_true h,cond_true,zkN h2,Option.bind_some,zc5,Option.bind_some]
    congr 2
    simp only[sg,cond_false]; omega
  · rw[decide_eq_false h,cond_false,wrap_i64 (n:=n+1) (by omega) (by omega),wrap_i64 (n:=0 - (n+1)) (by omega) (by omega),zkN (by omega),Option.bind_some,← zho]
    have hs:=zgJ (show (0 - (n+1)).toNat≤9223372036854775807 by omega)
    rw[zvJ (by omega) (by rw[zho]; simp),Option.bind_some,zc5,Option.bind_some]
    congr 2
    simp only[sg,cond_true]; omega
theorem zM3:([854775808,223372036,9]:List Int)=dg 9223372036854775808:=by
  refine zDf ⟨fun d hd=>?_,by simp[zp6]⟩ (by simp[nv])
  simp at hd
  omega
theorem zxV {n:Int} (h1 : -9223372036854775808≤n) (h2:n≤9223372036854775807):zeA n=some (bg n):=by
  unfold zeA
  by_cases h:n = -9223372036854775808
  · have hb:(n == -9223372036854775808)=true:=by rw[beq_iff_eq]; exact h
    obtain ⟨K,hK,hKv⟩:∃ K:Nat,([854775808,223372036,9]:List Int)=dg K∧K=n.natAbs:=⟨_,zM3,by omega⟩
    have hl:(dg K).length≤60:=by rw[← hK]; simp
    rw[hb,cond_true,hK,zdn _ hl,Option.bind_some]
    congr 2
    simp only[sg,cond_true]; omega
  · have hb:(n == -9223372036854775808)=false:=by rw[beq_eq_false_iff_ne]; exact h
    rw[hb,cond_false]
    by_cases h0:n < 0
    · rw[decide_eq_true h0,cond_true,wrap_i64 (n:=0 - n) (by omega) (by omega),zeO (by omega),Option.bind_some]
      have hs:=zgJ (show (0 - n).toNat≤9223372036854775807 by omega)
      rw[zdn _ (by omega),Option.bind_some]
      congr 2
      simp only[sg,cond_true]; omega
    · rw[decide_eq_false h0,cond_false,zeO h2,Option.bind_some]
      have hs:=zgJ (show n.toNat≤9223372036854775807 by omega)
      rw[zdn _ (by omega),Option.bind_some]
      congr 2
      simp only[sg,cond_false]; omega
theorem zuh {n:Int} (h1 : -9223372036854775808≤n) (h2:n≤9223372036854775807):(dg n.natAbs).length≤3:=zfR.2 (by simp[bp]; omega)
theorem zC8 {n:Int} (h1 : -9223372036854775808≤n) (h2:n≤9223372036854775807):Fit (n:Rat):=by
  unfold Fit
  rw[Rat.num_intCast,Rat.den_intCast,zho]
  exact ⟨by have:=zuh h1 h2; omega,by simp⟩
theorem zMU (n:Int):rq (n:Rat)=⟨(bg n).neg,(bg n).mag,[1]⟩:=by
  unfold rq bg
  rw[Rat.num_intCast,Rat.den_intCast,zho]
theorem zHG {z:Int} (h:(dg z.natAbs).length≤60):zj1 (bg z).mag:=⟨zbV _,h⟩
theorem zqZ {z:Int} (h:(dg z.natAbs).length≤60):zcg (bg z)=some true:=by
  unfold zcg
  rw[impl_natOk (by show (dg z.natAbs).length≤1048576; omega),pB_iff.2 (zHG h),Option.bind_some,cond_true]
  show cond (decide (((dg z.natAbs).length:Int) > 0)) (some true) (some (!decide (z < 0)))=some true
  rw[zng]
  by_cases h0:z.natAbs≠0
  · rw[decide_eq_true h0]; rfl
  · rw[decide_eq_false h0,decide_eq_false (by omega)]; rfl
theorem zlQ {r:Rt} (h:r.mag.length≤1048576∧r.den.length≤1048576):zbd r=some r:=by
  unfold zbd
  rw[zfT (by omega),Option.bind_some,zfT (by omega),Option.bind_some]
theorem zqe {r:Rt} (h:r.mag.length≤1048576∧r.den.length≤1048576):zbz r=some r:=by
  unfold zbz
  rw[room (by omega),Option.bind_some,room (by omega),Option.bind_some]
theorem zKp (x y:Int) (hy:y≠0):mkRat (sg (!(decide (x < 0)==decide (y < 0))) x.natAbs) y.natAbs=(x:Rat) / (y:Rat):=by
  have hyr:(y:Rat)≠0:=by intro h; exact hy (Rat.intCast_inj.1 h)
  have hd:=zA6 (x:Rat) (y:Rat) hyr
  rw[Rat.num_intCast,Rat.num_intCast,Rat.den_intCast,Rat.den_intCast,Nat.one_mul] at hd
  rw[← hd]
  congr 1
  by_cases h1:x < 0<;>by_cases h2:y < 0
  · rw[decide_eq_true h1,decide_eq_true h2]; simp only[sg,beq_self_eq_true,Bool.not_true,cond_true,cond_false]; omega
  · rw[decide_eq_true h1,decide_eq_false h2]; simp[sg]; omega
  · rw[decide_eq_false h1,decide_eq_true h2]; simp[sg]; omega
  · rw[decide_eq_false h1,decide_eq_false h2]; simp only[sg,beq_self_eq_true,Bool.not_true,cond_false]; omega
theorem zCS {x y:Int} (hx:(dg x.natAbs).length≤60) (hy:(dg y.natAbs).length≤60) (h0:y≠0):ze7 (bg x) (bg y)=some (ro (chk ((x:Rat) / (y:Rat)))):=by
  unfold ze7
  rw[zqZ hx,Option.bind_some,zqZ hy,Option.bind_some]
  simp only[Bool.not_true,cond_false]
  show cond (((dg y.natAbs).length:Int)==0) _ ((zfC (!(decide (x < 0)==decide (y < 0))) (dg x.natAbs)).bind fun r2=>(zfD r2 (dg y.natAbs)).bind _)=_
  rw[zhp,decide_eq_false (show ¬ y.natAbs=0 by omega),cond_false,zqW,Option.bind_some,zqY (by omega) (by rw[zkb]; omega) (by omega),Option.bind_some,zKp x y h0,zlQ (zAQ (zoX _)),Option.bind_some]
theorem zyF {x y:Int} (h1 : -9223372036854775808≤x) (h2:x≤9223372036854775807) (h3 : -9223372036854775808≤y) (h4:y≤9223372036854775807) (h0:y≠0):zgm x y=some (ro (chk ((x:Rat) / (y:Rat)))):=by
  unfold zgm
  have:=zuh h1 h2
  have:=zuh h3 h4
  rw[zog h1 h2,Option.bind_some,zog h3 h4,Option.bind_some,zCS (by omega) (by omega) h0,Option.bind_some]
theorem zup {n:Int} (h1 : -9223372036854775808≤n) (h2:n≤9223372036854775807):zdU n=some (ro (some (n:Rat))):=by
  unfold zdU
  rw[zyF h1 h2 (by omega) (by omega) (by omega),Option.bind_some]
  have:(n:Rat) / ((1:Int):Rat)=(n:Rat):=by
    rw[Rat.intCast_one,Rat.div_def,Rat.inv_eq_of_mul_eq_one (a:=1) (b:=1) (Rat.mul_one 1),Rat.mul_one]
  rw[this,zuG (zC8 h1 h2)]
theorem zoc {n:Int} (h1 : -9223372036854775808≤n) (h2:n≤9223372036854775807):zcy n=some (ro (some (n:Rat))):=by
  unfold zcy
  rw[zup h1 h2]; rfl
theorem zmo {n:Int} (h1 : -9223372036854775808≤n) (h2:n≤9223372036854775807):zb8 n=some (ro (some (n:Rat))):=by
  unfold zb8
  rw[zxV h1 h2,Option.bind_some]
  exact congrArg some (zMU n).symm
end Go.Di
namespace Go.Di
/-! ### Names -/
/-! ### Stations,matrices -/
def zlX (r:Rt):Bool:=pB (Good r)
theorem zxU {l:List Rt} (h:znB Rt.fit l):whileO zbt (l,(l.length:Int),0,())=some (cond (l.all zlX) (.inr ()) (.inl (false,()))):=by
  have key:=all_loopE (S:=zbt) (fun i=>(l,(l.length:Int),(i:Int),())) l.length (atB zlX l) () (fun i hi=>by
    simp only[zbt,dlt hi,cond_true,zaG hi,Option.bind_some,spec_ratOk (h.2 _ (List.getElem_mem hi)),zaB hi h.1,znv zlX hi,zlX]
    cases pB (Good l[i])<;>rfl) (by simp[zbt])
  rw[zh3] at key; exact key
theorem zyH {l:List Rt} (h:znB Rt.fit l):whileO zbu (l,(l.length:Int),0,())=some (cond (l.all zlX) (.inr ()) (.inl (false,()))):=by
  have key:=all_loopE (S:=zbu) (fun i=>(l,(l.length:Int),(i:Int),())) l.length (atB zlX l) () (fun i hi=>by
    simp only[zbu,dlt hi,cond_true,zaG hi,Option.bind_some,impl_ratOk (h.2 _ (List.getElem_mem hi)),zaB hi h.1,znv zlX hi,zlX]
    cases pB (Good l[i])<;>rfl) (by simp[zbu])
  rw[zh3] at key; exact key
def inB (n lo hi:Int):Bool:=decide (n ≥ lo) && decide (n≤hi)
theorem zAa (n lo hi:Int):zdx n lo hi=some (inB n lo hi):=by
  unfold zdx inB; cases decide (n ≥ lo)<;>rfl
theorem zvH (n:Int):zdC n=some (inB n 0 24):=by
  unfold zdC inB; cases decide (n ≥ 0)<;>rfl
def mxB (m:Mx):Bool:=inB m.rows 0 24 && (inB m.cols 0 24 && (((m.cells.length:Int)==IntKind.i64.wrap (m.rows * m.cols)) && m.cells.all zlX))
theorem zj6 {m:Mx} (h:znB Rt.fit m.cells):zey m=some (mxB m):=by
  unfold zey mxB zg0
  refine chain (zAa ..) (chain (zAa ..) ?_)
  rw[show ((m.cells.length:Int) != IntKind.i64.wrap (m.rows * m.cols))=!((m.cells.length:Int)==IntKind.i64.wrap (m.rows * m.cols)) from rfl]
  refine zrJ ?_
  rw[zxU h]
  cases m.cells.all zlX<;>rfl
theorem zqX {m:Mx} (h:znB Rt.fit m.cells):zeL m=some (mxB m):=by
  unfold zeL mxB zg5
  refine chain (zvH _) (chain (zvH _) ?_)
  rw[show ((m.cells.length:Int) != IntKind.i64.wrap (m.rows * m.cols))=!((m.cells.length:Int)==IntKind.i64.wrap (m.rows * m.cols)) from rfl]
  refine zrJ ?_
  rw[zyH h]
  cases m.cells.all zlX<;>rfl
/-! ### Networks -/
end Go.Di
namespace Go.Di
def upto (k:Int) (n:Nat):List Int:=(List.range n).map fun (i:Nat)=>k+(i:Int)
@[simp] theorem zFm (k:Int) (n:Nat):(upto k n).length=n:=by simp[upto]
theorem upto_at {k:Int} {n i:Nat} (h:i < n):(upto k n)[i]'(by simpa using h)=k+i:=by simp[upto]
theorem upto_succ (k:Int) (n:Nat):upto k (n+1)=upto k n++[k+n]:=by simp[upto,List.range_succ]
theorem zqB {a:List Int} {k:Int} (ha:a.length≤1048576) (h0:0≤k) (h1:k≤1000000000000):zcx a k=some (k+a.length,upto k a.length):=by
  unfold zcx zfs
  have key:=za7 zbm (fun i=>(k+(i:Int),(i:Int),upto k i++a.drop i,())) a.length (k+(a.length:Int),upto k a.length,()) (fun i hi=>by
    have hl:(upto k i++a.drop i).length=a.length:=by simp; omega
    have hlt:decide ((i:Int) < ((upto k i++a.drop i).length:Int))=true:=by rw[hl]; exact dlt hi
    have hi':i < (upto k i++a.drop i).length:=by rw[hl]; exact hi
    have e1:IntKind.i64.wrap (k+(i:Int)+1)=k+((i+1:Nat):Int):=by rw[wrap_i64 (by omega) (by omega)]; omega
    simp only[zbm,hlt,cond_true,zaG hi',Option.bind_some,e1,zaB hi ha,Int.toNat_natCast]
    congr 4
    rw[upto_succ,List.set_append_right _ _ (by simp),zFm,Nat.sub_self,List.drop_eq_getElem_cons hi,List.set_cons_zero,List.append_assoc]
    rfl) (by simp[zbm])
  simp only[Int.natCast_zero,Int.add_zero] at key
  rw[show upto k 0++a.drop 0=a by simp[upto]] at key
  rw[key]; rfl
theorem zq4 {k:Int} {n:Nat} (hn:n≤1048576) (h0:0≤k) (h1:k≤1000000000000):zdA (upto k n) k=some (k+n):=by
  unfold zdA zg2
  have key:=za7 zb2 (fun i=>(upto k n,k+(i:Int),(i:Int),())) n (.inr (k+(n:Int),())) (fun i hi=>by
    have hi':i < (upto k n).length:=by simpa using hi
    have hlt:decide ((i:Int) < ((upto k n).length:Int))=true:=dlt hi'
    have e1:IntKind.i64.wrap (k+(i:Int)+1)=k+((i+1:Nat):Int):=by rw[wrap_i64 (by omega) (by omega)]; omega
    have e2:((upto k n)[i] != k+(i:Int))=false:=by rw[upto_at hi]; simp
    simp only[zb2,hlt,cond_true,zaG hi',Option.bind_some,e1,zaB hi hn,e2,cond_false]) (by simp[zb2])
  simp only[Int.natCast_zero,Int.add_zero] at key
  rw[key]; rfl
theorem zOU {x:Int} (h:0≤x):decide (x < 0)=false:=decide_eq_false (by omega)
theorem zL3 (x:Int):(x != x)=false:=by simp
end Go.Di
namespace Go.Di
end Go.Di
namespace Go.Di
theorem zqf (o:Option Rat):zc9 (ro o)=some o.isNone:=by unfold zc9; rw[zvV]
theorem zAe {o p:Option Rat} (ho:Oks o) (hp:Oks p):zdO (ro o) (ro p)=some (ro (divO o p)):=by
  unfold zdO
  have hom:=zmv ho
  have hpm:=zmv hp
  have hod:=zke ho
  have hpd:=zke hp
  cases o with
  | none =>
    obtain ⟨m,d,e1,e2⟩:∃ m d:Nat,(ro p).mag=dg m∧(ro p).den=dg d:=by
      cases p with
      | none=>exact ⟨0,0,zay.symm,zay.symm⟩
      | some r=>exact ⟨_,_,rfl,rfl⟩
    rw[e1] at hpm; rw[e2] at hpd
    rw[zeQ,e1,e2]
    rw[zcn (by rw[zay]; simp) (by omega),Option.bind_some,zcn (by rw[zay]; simp) (by omega),Option.bind_some,Nat.zero_mul,Nat.zero_mul,zgB (by rw[zay]; simp),Option.bind_some]; rfl
  | some q =>
    have fq:=ho q rfl
    cases p with
    | none =>
      rw[zeQ]
      show ((zas (dg q.num.natAbs) (dg 0)).bind fun r1=>(zas (dg q.den) (dg 0)).bind _)=_
      rw[zcn (by have:=fq.1; omega) (by rw[zay]; simp),Option.bind_some,zcn (by have:=fq.2; omega) (by rw[zay]; simp),Option.bind_some,Nat.mul_zero,Nat.mul_zero,zgB (by rw[zay]; simp),Option.bind_some]; rfl
    | some r =>
      have fr:=hp r rfl
      have h3:=zeP fq.2 fr.1
      have h4:=zeP fq.1 fr.2
      show ((zas (dg q.num.natAbs) (dg r.den)).bind fun r1=>(zas (dg q.den) (dg r.num.natAbs)).bind fun r2=>(zaO (!(decide (q.num < 0)==decide (r.num < 0))) r1 r2).bind _)=_
      rw[zcn (by have:=fq.1; omega) (by have:=fr.2; omega),Option.bind_some,zcn (by have:=fq.2; omega) (by have:=fr.1; omega),Option.bind_some]
      by_cases h0:r=0
      · have:r.num.natAbs=0:=by rw[h0]; rfl
        rw[this,Nat.mul_zero,zgB (by omega),Option.bind_some]
        simp[divO,h0]
      · have hn:r.num.natAbs≠0:=fun h=>h0 (Rat.num_eq_zero.1 (by omega))
        rw[zl1 (Nat.mul_ne_zero q.den_nz hn) (by omega) (by omega),Option.bind_some]
        have hs:=zAJ q.num (sg (decide (r.num < 0)) r.den)
        rw[zkb,zvg r.den_nz] at hs
        rw[hs,zA6 q r h0]
        simp[divO,h0]
/-! ### Signs -/
theorem zoe (q:Rat):zdB (rq q)=some (cond (decide (q.num < 0)) (-1) (cond (decide (q.num≠0)) 1 0)):=by
  unfold zdB rq
  simp only[zng]
  cases decide (q.num < 0) with
  | true=>rfl
  | false =>
    simp only[cond_false]
    have:decide (q.num.natAbs≠0)=decide (q.num≠0):=by rw[Bool.eq_iff_iff]; simp
    rw[this]
    cases decide (q.num≠0)<;>rfl
/-! ### Rounded down -/
/-! ### Roots of fractions -/
/-! ### Readings -/
end Go.Di
namespace Go.Di
/-! ### Marks on lists -/
def ws {α:Type} (w:α→Nat) (l:List α):Nat:=(l.map w).sum
theorem zzT {α:Type} (w:α→Nat) (l:List α) {i:Nat} (h:i < l.length):ws w (l.take (i+1))=ws w (l.take i)+w l[i]:=by
  unfold ws
  rw[List.take_succ_eq_append_getElem h,List.map_append,List.sum_append]; simp
theorem zMD {α:Type} (w:α→Nat) (l:List α) (i:Nat):ws w (l.take i)≤ws w l:=by
  have:ws w l=ws w (l.take i)+ws w (l.drop i):=by
    unfold ws
    rw[← List.sum_append,← List.map_append,List.take_append_drop]
  omega
theorem zHR {α:Type} (w:α→Nat) (l:List α):ws w (l.take l.length)=ws w l:=by rw[List.take_length]
def zfn {α:Type} (mk:Int→α→α) (w:α→Nat) (k:Int) (a:List α) (i:Nat):List α:=a.mapIdx fun j x=>if j < i then mk (k+(ws w (a.take j):Nat)) x else x
def marks {α:Type} (mk:Int→α→α) (w:α→Nat) (k:Int) (a:List α):List α:=zfn mk w k a a.length
theorem zjU {α:Type} (mk:Int→α→α) (w:α→Nat) (k:Int) (a:List α) (i:Nat):(zfn mk w k a i).length=a.length:=by simp[zfn]
theorem zqP {α:Type} (mk:Int→α→α) (w:α→Nat) (k:Int) (a:List α):(marks mk w k a).length=a.length:=zjU ..
theorem zqy {α:Type} (mk:Int→α→α) (w:α→Nat) (k:Int) (a:List α):zfn mk w k a 0=a:=by
  apply List.ext_getElem?
  intro j
  simp only[zfn,List.getElem?_mapIdx,Nat.not_lt_zero,if_false]
  cases a[j]? <;> rfl
theorem zx6 {α:Type} (mk:Int→α→α) (w:α→Nat) (k:Int) (a:List α) {i:Nat} (h:i < a.length):(zfn mk w k a i)[i]? = some a[i]:=by
  simp[zfn,h]
theorem zqz {α:Type} (mk:Int→α→α) (w:α→Nat) (k:Int) (a:List α) {i:Nat} (h:i < a.length) :
    (zfn mk w k a i).set i (mk (k+(ws w (a.take i):Nat)) a[i])=zfn mk w k a (i+1):=by
  apply List.ext_getElem?
  intro j
  rw[List.getElem?_set]
  simp only[zfn,List.getElem?_mapIdx,List.length_mapIdx]
  by_cases hj:i=j
  · subst hj; simp[h]
  · rw[if_neg hj]
    by_cases hlt:j < i
    · simp[hlt,show j < i+1 by omega]
    · simp[hlt,show ¬ j < i+1 by omega]
theorem zE5 {α:Type} (mk:Int→α→α) (w:α→Nat) (k:Int) (a:List α) {i:Nat} (h:i < a.length):(marks mk w k a)[i]? = some (mk (k+(ws w (a.take i):Nat)) a[i]):=by
  simp[marks,zfn,h]
theorem zBa {α:Type} {mk:Int→α→α} {w:α→Nat} {S:Int × Int × List α × Unit→Option ((Int × Int × List α × Unit) ⊕ (Int × List α × Unit))} {a:List α} {k:Int} {B:Int} (h0:0≤k) (hB:k+(ws w a:Nat)≤B)
    (hS:∀ (i:Nat) (K:Int) (c:List α) (h:i < a.length),0≤K→K≤B→c.length=a.length→c[i]? = some a[i]→S (K,(i:Int),c,())=some (.inl (K+(w a[i]:Nat),((i+1:Nat):Int),c.set i (mk K a[i]),())))
    (hE:∀ K c,c.length=a.length→S (K,(a.length:Int),c,())=some (.inr (K,c,()))):whileO S (k,0,a,())=some (k+(ws w a:Nat),marks mk w k a,()):=by
  have key:=za7 S (fun i=>(k+(ws w (a.take i):Nat),(i:Int),zfn mk w k a i,())) a.length (k+(ws w a:Nat),marks mk w k a,()) (fun i hi=>by
    have hle:=zMD w a i
    rw[hS i _ _ hi (by omega) (by omega) (zjU ..) (zx6 _ _ _ _ hi),zqz _ _ _ _ hi,zzT w a hi]
    congr 3
    omega) (by
    rw[hE _ _ (zjU ..),zHR]; rfl)
  rw[zqy] at key
  have h0:ws w (a.take 0)=0:=by simp[ws]
  rw[h0] at key
  simpa using key
theorem zC0 {α:Type} {mk:Int→α→α} {w:α→Nat} {S:List α × Int × Int × Unit→Option ((List α × Int × Int × Unit) ⊕ ((Int × Unit) ⊕ (Int × Unit)))} {a:List α} {k:Int} {B:Int} (h0:0≤k) (hB:k+(ws w a:Nat)≤B)
    (hS:∀ (i:Nat) (K:Int) (c:List α) (h:i < a.length),0≤K→K≤B→c.length=a.length→c[i]? = some (mk K a[i])→S (c,K,(i:Int),())=some (.inl (c,K+(w a[i]:Nat),((i+1:Nat):Int),())))
    (hE:∀ K c,c.length=a.length→S (c,K,(a.length:Int),())=some (.inr (.inr (K,())))):whileO S (marks mk w k a,k,0,())=some (.inr (k+(ws w a:Nat),())):=by
  have key:=za7 S (fun i=>(marks mk w k a,k+(ws w (a.take i):Nat),(i:Int),())) a.length (.inr (k+(ws w a:Nat),())) (fun i hi=>by
    have hle:=zMD w a i
    rw[hS i _ _ hi (by omega) (by omega) (zqP ..) (zE5 _ _ _ _ hi),zzT w a hi]
    congr 4
    omega) (by
    rw[hE _ _ (zqP ..),zHR])
  have h0:ws w (a.take 0)=0:=by simp[ws]
  rw[h0] at key
  simpa using key
theorem zus {α:Type} {c:List α} {i:Nat} {x:α} (h:c[i]? = some x):idx c (i:Int)=some x:=by rw[zhh]; exact h
theorem lt_of_get {α:Type} {c:List α} {i:Nat} {x:α} (h:c[i]? = some x):i < c.length:=(List.getElem?_eq_some_iff.1 h).1
theorem zC3 {α:Type} {c:List α} {i:Nat} (h:i < c.length) (x:α):(c.set i x)[i]? = some x:=List.getElem?_set_self h
theorem zLG {α:Type} {c:List α} {i:Nat} (h:i < c.length) (x:α):idx (c.set i x) (i:Int)=some x:=zus (zC3 h x)
/-! ### Fractions -/
def wR (r:Rt):Nat:=1+r.mag.length+r.den.length
def mkR (k:Int) (r:Rt):Rt:=⟨(k.tmod 3)==0,upto (k+1) r.mag.length,upto (k+1+r.mag.length) r.den.length⟩
theorem zzU (l:List Rt):ws wR l=lsz Rt.sz l:=by
  unfold ws lsz
  induction l with
  | nil=>rfl
  | cons r l ih=>simp only[List.map_cons,List.sum_cons,List.length_cons,ih]; unfold wR Rt.sz; omega
theorem zJH {l:List Rt} (h:znB Rt.fit l) {i:Nat} (hi:i < l.length):l[i].fit:=h.2 _ (List.getElem_mem hi)
theorem zqA {a:List Rt} (ha:znB Rt.fit a) (hw:ws wR a≤1000000000) {k:Int} (h0:0≤k) (h1:k≤1000000000):zcw a k=some (k+(ws wR a:Nat),marks mkR wR k a):=by
  unfold zcw zfr
  rw[zBa (mk:=mkR) (w:=wR) (B:=2000000000) h0 (by omega) (fun i K c hi q0 q1 hl hc=>?_) (fun K c hl=>by simp[zbP,hl])]
  · rfl
  · have hlt:=lt_of_get hc
    have hf:=zJH ha hi
    have f1:=hf.1
    have f2:=hf.2
    have e1:IntKind.i64.wrap (K+1)=K+1:=wrap_i64 (by omega) (by omega)
    simp only[zbP,dlt hlt,cond_true,zus hc,Option.bind_some,Int.toNat_natCast,hc,zLG hlt,zC3 hlt,List.set_set,e1,
      zqB f1 (show 0≤K+1 by omega) (by omega),zqB f2 (show 0≤K+1+(a[i].mag.length:Int) by omega) (by omega),zaB hi ha.1]
    congr 3
    unfold wR; omega
theorem zq3 {a:List Rt} (ha:znB Rt.fit a) (hw:ws wR a≤1000000000) {k:Int} (h0:0≤k) (h1:k≤1000000000):zcW (marks mkR wR k a) k=some (k+(ws wR a:Nat)):=by
  unfold zcW zg1
  rw[zC0 (mk:=mkR) (w:=wR) (B:=2000000000) h0 (by omega) (fun i K c hi q0 q1 hl hc=>?_) (fun K c hl=>by simp[zcM,hl])]
  · rfl
  · have hlt:=lt_of_get hc
    have hf:=zJH ha hi
    have f1:=hf.1
    have f2:=hf.2
    have e1:IntKind.i64.wrap (K+1)=K+1:=wrap_i64 (by omega) (by omega)
    simp only[zcM,dlt hlt,cond_true,zus hc,Option.bind_some,e1,mkR,beq_self_eq_true,Bool.not_true,cond_false,
      zq4 f1 (show 0≤K+1 by omega) (by omega),zq4 f2 (show 0≤K+1+(a[i].mag.length:Int) by omega) (by omega),zaB hi ha.1,
      zOU (show 0≤K+1+(a[i].mag.length:Int) by omega),zOU (show 0≤K+1+(a[i].mag.length:Int)+(a[i].den.length:Int) by omega)]
    congr 4
    unfold wR; omega
theorem zA9 {m:Mx} (ha:znB Rt.fit m.cells) (hw:ws wR m.cells≤1000000000) {k:Int} (h0:0≤k) (h1:k≤1000000000):zbQ m k=some (k+(ws wR m.cells:Nat),marks mkR wR k m.cells):=by
  unfold zbQ
  rw[zqA ha hw h0 h1]; rfl
theorem zLH {a:List Rt} {x y:Int} (ha:znB Rt.fit a) (hw:ws wR a≤1000000000) {k:Int} (h0:0≤k) (h1:k≤1000000000):zcX ⟨x,y,marks mkR wR k a⟩ k=some (k+(ws wR a:Nat)):=by
  unfold zcX
  simp only[zq3 ha hw h0 h1,Option.bind_some]
  rw[zOU (by omega)]; rfl
/-! ### Loops that append -/
theorem zHI {β σ ρ:Type} {S:σ→Option (σ ⊕ ρ)} (st:Int→List β→σ) (g:Nat→β) (n:Nat) {r:List β→ρ}
    (hS:∀ (i:Nat) out,i < n→out.length=i→S (st (i:Int) out)=some (.inl (st ((i+1:Nat):Int) (out++[g i])))) (hE:∀ out,out.length=n→S (st (n:Int) out)=some (.inr (r out))) :
    whileO S (st 0 [])=some (r ((List.range n).map g)):=by
  have key:=za7 S (fun i=>st (i:Int) ((List.range i).map g)) n (r ((List.range n).map g)) (fun i hi=>by
    rw[hS i _ hi (by simp),List.range_succ,List.map_append]; rfl) (hE _ (by simp))
  simpa using key
theorem zER {n:Nat} (h:n≤2000000):zal (Nat.ble (n+1) zar)=some ():=by
  have:Nat.ble (n+1) zar=true:=Nat.ble_eq_true_of_le (by unfold zar; omega)
  rw[this]; rfl
/-! ### Valid vectors -/
def Fits (q:List Rat):Prop:=∀ x∈q,Fit x
theorem zC2:∀ {l:List Rt},l.all zlX=true→∃ q:List Rat,Fits q∧l=q.map rq
  | [],_=>⟨[],fun x h=>(by cases h),rfl⟩
  | r :: l,h=>by
    rw[List.all_cons,Bool.and_eq_true] at h
    obtain ⟨q,hq,rfl⟩:=zC2 h.2
    obtain ⟨x,hx,rfl⟩:=pB_iff.1 h.1
    exact ⟨x :: q,fun y hy=>by
      rcases List.mem_cons.1 hy with rfl | hy
      · exact hx
      · exact hq y hy,rfl⟩
theorem Fits.get {q:List Rat} (h:Fits q) (i:Nat):Oks q[i]? := fun x hx=>h x (List.mem_of_getElem? hx)
theorem zPc {q:Rat} (h:Fit q):(rq q).sz≤48:=by
  have:=h.1
  have:=h.2
  show (dg q.num.natAbs).length+(dg q.den).length≤48
  omega
theorem zMV {o:Option Rat} (h:Oks o):(ro o).sz≤48:=by
  cases o with
  | none=>show 0+0≤48; omega
  | some q=>exact zPc (h q rfl)
structure Rfit (l:List Rt):Prop where
  fit:znB Rt.fit l
  few:ws wR l≤1000000000
theorem zvm {l:List Rt} (h:lsz Rt.sz l≤1048576):Rfit l:=⟨zKL (f:=Rt.sz) (fun _=>Rt.zm5) h,by rw[zzU]; omega⟩
theorem zqC {l:List Rt} (h:∀ x∈l,x.sz≤48) (n:Nat) (hn:l.length≤n):lsz Rt.sz l≤49 * n:=by
  have : (l.map Rt.sz).sum≤48 * l.length:=by
    clear hn
    induction l with
    | nil=>simp
    | cons r l ih =>
      have h1:=ih fun x hx=>h x (List.mem_cons_of_mem _ hx)
      have h2:=h r (List.mem_cons_self ..)
      simp only[List.map_cons,List.sum_cons,List.length_cons]; omega
  unfold lsz; omega
theorem zAR {l:List (Option Rat)} (h:∀ o∈l,Oks o) (hn:l.length≤20000):Rfit (l.map ro):=by
  refine zvm (Nat.le_trans (zqC (n:=20000) (fun x hx=>?_) (by simpa using hn)) (by omega))
  obtain ⟨o,ho,rfl⟩:=List.mem_map.1 hx
  exact zMV (h o ho)
theorem zKt {l:List Rat} (h:Fits l) (hn:l.length≤20000):Rfit (l.map rq):=by
  have:l.map rq=(l.map some).map ro:=by rw[List.map_map]; rfl
  rw[this]
  refine zAR (fun o ho=>?_) (by simpa using hn)
  obtain ⟨x,hx,rfl⟩:=List.mem_map.1 ho
  exact (h x hx).ok
theorem zl5:Rfit []:=⟨⟨by simp,fun x h=>(by cases h)⟩,by simp[ws]⟩
theorem zo6 {q:List Rat} {i:Nat} (h:i < q.length):idx (q.map rq) (i:Int)=some (ro q[i]?):=by
  rw[zhh,List.getElem?_map,List.getElem?_eq_getElem h]; rfl
theorem zNE {l:List (Option Rat)} {i:Nat} (h:i < l.length):idx (l.map ro) (i:Int)=some (ro l[i]):=by
  rw[zhh,List.getElem?_map,List.getElem?_eq_getElem h]; rfl
/-! ### Inner products -/
theorem zxL:zcy 0=some (ro (some 0)):=by
  have:=zoc (n:=0) (by omega) (by omega)
  simpa using this
theorem zM2 (q:Rat):zes (rq q)=some (decide (q=0)):=by
  show some (((dg q.num.natAbs).length:Int)==0)=_
  rw[zhp]
  congr 1
  rw[Bool.eq_iff_iff,decide_eq_true_iff,decide_eq_true_iff,Int.natAbs_eq_zero,Rat.num_eq_zero]
theorem zz7:ze6=some (ro (some 0)):=by
  unfold ze6
  have:=zmo (n:=0) (by omega) (by omega)
  rw[this]; rfl
/-! ### Vectors without gaps -/
theorem zAb {l:List (Option Rat)} (h:l.length≤1048576):zd1 (l.map ro)=some (l.all Option.isSome):=by
  unfold zd1 zhE
  have key:=all_loopE (S:=zck) (fun i=>(l.map ro,((l.map ro).length:Int),(i:Int),())) l.length (atB Option.isSome l) () (fun i hi=>by
    have hi':i < (l.map ro).length:=by simpa using hi
    simp only[zck,dlt hi',cond_true,zNE hi,Option.bind_some,zqf,zaB hi h,znv Option.isSome hi]
    cases l[i]<;>rfl) (by simp[zck])
  rw[zh3] at key
  rw[show ((0:Nat):Int)=0 from rfl] at key
  rw[key]
  cases l.all Option.isSome<;>rfl
end Go.Di
