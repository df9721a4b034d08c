/- By an AI agent. No person has read it. -/
import Derived.Test.YtdcekiigkplmgaaWPLT
import Derived.Test.YtdcekiigkplmgaaWYW
namespace Go.Proofs.Ytdcekiigkplmgaa
end Go.Proofs.Ytdcekiigkplmgaa
