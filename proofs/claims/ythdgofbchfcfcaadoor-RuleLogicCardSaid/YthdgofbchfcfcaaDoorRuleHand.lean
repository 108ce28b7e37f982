/- The contracts by hand of the package rule and of the chapter's examples, together. -/
import Derived.Test.YthdgofbchfcfcaaDoorRuleGrade
import Derived.Test.YthdgofbchfcfcaaDoorRuleUsesRow
import Derived.Test.YthdgofbchfcfcaaDoorRuleRefUses
import Derived.Test.YthdgofbchfcfcaaDoorRuleAwake
